/- An argument that can be read as data, opened: what lies in memory, in this family's own words. What two cost: l6In, l22Ok, l22Add, costOk, both CostAdd, toCost. Memory that a call has made itself: slices whose blocks are known whole, so that they may be written; what is apart from what. The readers of bytes that the laws' inputs are drawn by: l6Open, pick; a world in which some blocks have turned. Drawn costs. Memory of a call's own that it writes in place: rows of plain elements, blocks of pages, stores; each write turns one block. New flashes, stores, pairs, of both sides. Small steps of the walks: what a block holds behind allocations, stores and calls. Rows of the call's own that grow by append, also within a region that draws its order. Records and pages that are well formed, as both sides ask it. The last record of an address, as the reference finds it. New flashes of the program's side, new stores and pairs of both. A flash that is well formed, as the reference asks it: page by page, with the numbers met so far. What the reference finds of a block and of a flash: l3Most, l3Least, l2Clean, l3Next, l3Open, l3Old, l3Live. -/import Derived.Test.YtoekfnjeceijaaaGreatDoorProg
import Derived.Test.YtoekfnjeceijaaaGreatDoorZ1
import Derived.ChangeArms
import Derived.ProofKit
import Derived.KernelRfl
import Derived.Deep.MidRow
import Derived.Laws.MakeOwn
import Derived.Lib.Hide
import Derived.Laws.AppendOwn
import Derived.Handy
set_option maxHeartbeats 2000000
set_option linter.unusedVariables false
set_option linter.unusedSimpArgs false
namespace Go.Bu
open Go Go.RowKit Go.Plan Go.Proofs
section
variable {H : Type} {enc : TypeId × Value → H} {w : World} {spare : Nat → Bool} {held : Bool}
theorem cells_get {a : Addr} {n : Nat} {c : List Value} (h : w.cells? 0 a n = some c) : c.length = n ∧ ∀ (j : Nat),j < n → w.cell? (a.add j) = c[j]?:=by
 unfold World.cells? at h
 rw [if_pos (Nat.zero_le _)] at h
 exact ⟨by simpa using mapM_some_length h,fun j hj=>by simpa using mapM_some_get h j j (by simp [hj])⟩
theorem cell_spot {a : Addr} {v : Value} (h : w.cell? a = some v) : a = ⟨a.block,a.off,none⟩:=by
 obtain ⟨b,o,s⟩:=a
 unfold World.cell? at h
 cases s with
 | none=>rfl
 | some k=>simp at h;split at h <;> simp_all
theorem add_none (b o m : Nat) : Addr.add ⟨b,o,none⟩ m = ⟨b,o + m,none⟩:=by
 unfold Addr.add
 by_cases h : m = 0
 ·subst h;rfl
 ·rw [if_neg h]
theorem choose_list {α : Type} {n : Nat} {R : Nat → α → Prop} (h : ∀ i,i < n → ∃ x,R i x) : ∃ xs : List α,xs.length = n ∧ ∀ (i : Nat) x,xs[i]? = some x → R i x:=by
 induction n with
 | zero=>exact ⟨[],rfl,fun i x hx=>by simp at hx⟩
 | succ n ih =>
  obtain ⟨xs,hl,hr⟩:=ih fun i hi=>h i (by omega)
  obtain ⟨x,hx⟩:=h n (by omega)
  refine ⟨xs ++ [x],by simp [hl],fun i y hy=>?_⟩
  by_cases hi : i < xs.length
  ·rw [List.getElem?_append_left hi] at hy;exact hr i y hy
  ·rw [List.getElem?_append_right (by omega)] at hy
   have : i - xs.length = 0:=by
    rcases Nat.eq_zero_or_pos (i - xs.length) with h | h
    ·exact h
    ·rw [List.getElem?_eq_none (by simp;omega)] at hy;cases hy
   rw [this] at hy
   simp at hy
   subst hy
   have : i = n:=by omega
   subst this
   exact hx
def Opens {α : Type} (P : Program) (t : TypeId) (E : Enc α) : Prop:=
 ∀ (H : Type) (enc : TypeId × Value → H) (w : World) (spare : Nat → Bool) (held : Bool) (fuel : Nat) (cs : List Value) (x : DataW H × List MemPlace),DataW.trod enc P w 0 spare held fuel t cs = some x → ∃ y : α,E (Old w) w y cs
theorem open_sl {α : Type} {P : Program} {t e : TypeId} {n : Nat} {E : Enc α} (ht : P.underlying t = some (.slice e)) (hn : P.cellsOf e = n) (hn0 : 0 < n) (hE : Opens P e E) {fuel : Nat} {v : Value} {x : DataW H × List MemPlace}
  (h : DataW.trod enc P w 0 spare held fuel t [v] = some x) : ∃ xs : List α,Sl n E (Old w) w v xs ∧ xs.length ≤ 9223372036854775807 ∧ ∀ a n c,v = .slice a n c → n ≤ c:=by
 rcases DataW.trod_slice ht h with ⟨h1,_⟩ | ⟨a,len,cap,elems,rest,m,rfl,h1,_,_,hlc,hcm,hel,hget,_⟩
 ·obtain rfl : v = .slice none 0 0:=by simpa using h1
  exact ⟨[],⟨none,0,rfl,fun i x hx=>by simp at hx⟩,by simp,fun a n c h=>by injection h with h1 h2 h3;omega⟩
 ·obtain rfl : v = .slice (some a) len cap:=by simpa using h1
  rw [hn] at hget
  have key : ∀ i,i < len → ∃ (y : α) (c : List Value),w.cells? 0 (a.add (i * n)) n = some c ∧ E (Old w) w y c:=by
   intro i hi
   have hg:=hget i hi
   rw [List.getElem?_eq_getElem (by omega)] at hg
   obtain ⟨c,hc,ht'⟩:=Option.bind_eq_some_iff.1 hg
   obtain ⟨y,hy⟩:=hE _ _ _ _ _ _ _ _ ht'
   exact ⟨y,c,hc,hy⟩
  obtain ⟨xs,hl,hr⟩:=choose_list key
  have hmax : len ≤ 9223372036854775807:=by have:=Nat.le_trans hlc hcm;simpa [maxLen] using this
  refine ⟨xs,⟨some a,cap,by rw [hl],fun i y hy=>?_⟩,by rw [hl];exact hmax,fun a n c h=>by injection h with h1 h2 h3;omega⟩
  obtain ⟨c,hc,he⟩:=hr i y hy
  have hi : i < xs.length:=(List.getElem?_eq_some_iff.1 hy).1
  obtain ⟨c0,hc0,_⟩:=hr 0 xs[0] (List.getElem?_eq_getElem (by omega))
  obtain ⟨hl0,hg0⟩:=cells_get hc0
  have h00:=hg0 0 hn0
  rw [List.getElem?_eq_getElem (by omega)] at h00
  have ha : a.spot = none:=by rw [cell_spot (a:=a) (v:=c0[0]) (by simpa [Addr.add] using h00)]
  obtain ⟨b,o,s⟩:=a
  obtain rfl : s = none:=ha
  obtain ⟨hlc',hg⟩:=cells_get hc
  have hcell : ∀ (j : Nat) u,c[j]? = some u → w.cell? ⟨b,o + i * n + j,none⟩ = some u:=by
   intro j u hu
   have hj : j < n:=by rw [← hlc'];exact (List.getElem?_eq_some_iff.1 hu).1
   have:=hg j hj
   rw [add_none,add_none,hu] at this
   exact this
  refine ⟨b,o,c,rfl,?_,he,hcell⟩
  exact cell_lt (hcell 0 _ (List.getElem?_eq_getElem (by omega)))
end
theorem opens_byte : Opens Tryz.prog 5 (plain fun n : { n : Nat // n < 256 }=>[.int .u8 (n.1 : Nat)]):=by
 intro H enc w spare held fuel cs x h
 obtain ⟨n,hc,hx,hh⟩:=DataW.trod_int Tryz.underlying5 h
 have hw : 0 ≤ n ∧ n ≤ 255:=by
  simp [Lit.wf] at hh
  have h1 : IntKind.u8.min = 0:=by decide
  have h2 : IntKind.u8.max = 255:=by decide
  omega
 refine ⟨⟨n.toNat,by omega⟩,?_⟩
 rw [hc]
 show [Value.int .u8 n] = [Value.int .u8 ((n.toNat : Nat) : Int)]
 rw [Int.toNat_of_nonneg (by omega)]
set_option maxRecDepth 100000 in
theorem is_bytes {H : Type} {enc : TypeId × Value → H} {w : World} {r : Reach} {base : Nat} {v : Value} {d : DataW H} {ps : List MemPlace} (hv : Value.okWide Tryz.prog w r base 22 v) (h : DataW.Trod enc Tryz.prog w 0 (fun _=>true) true 22 v d ps) :
  ∃ xs : List Nat,Sl 1 (plain fun n : Nat=>[.int .u8 n]) (Old w) w v xs ∧ (∀ x ∈ xs,x < 256) ∧ ∀ a n c,v = .slice a n c → n ≤ c:=by
 obtain ⟨a,len,cap,rfl⟩:=WideShapes.okWide_slice Tryz.underlying22 hv
 obtain ⟨fuel,hf⟩:=h
 obtain ⟨xs,⟨a',cap',hv',hx⟩,_,hc⟩:=open_sl (n:=1) Tryz.underlying22 (by kernel_rfl) (by omega) opens_byte hf
 refine ⟨xs.map (·.1),⟨a',cap',by simpa using hv',fun i x hi=>?_⟩,fun x hx=>?_,hc⟩
 ·rw [List.getElem?_map] at hi
  obtain ⟨y,hy,rfl⟩:=Option.map_eq_some_iff.1 hi
  exact hx i y hy
 ·obtain ⟨y,_,rfl⟩:=List.mem_map.1 hx
  exact y.2
end Go.Bu
namespace Go.Bu
open Go Go.RowKit Go.Plan Go.Proofs
def inB (n lo hi : Int) : Bool:=decide (lo ≤ n) && decide (n ≤ hi)
theorem inB_iff {n lo hi : Int} : inB n lo hi = true ↔ lo ≤ n ∧ n ≤ hi:=by simp [inB]
theorem inB_no {n lo hi : Int} : inB n lo hi = false ↔ n < lo ∨ hi < n:=by
 rw [← Bool.not_eq_true,inB_iff];omega
def costSum (a b : Cost) : Cost:=⟨a.writes + b.writes,a.wipes + b.wipes,a.disks + b.disks⟩
def cost0 : Cost:=⟨0,0,0⟩
def RetSame (w : World) (v : Value) (e : Ending) (w' : World) : Prop:=e = .returned v ∧ w = w'
theorem RetSame.ret {w w' : World} {v : Value} {e : Ending} (h : RetSame w v e w') : Ret w v e w':=⟨h.1,by rw [← h.2];exact ext_refl _⟩
theorem l6In_c (n lo hi : Int) (w : World) : Calls Tryz.prog 73 #[.int .i64 n,.int .i64 lo,.int .i64 hi] w (RetSame w (.bool (inB n lo hi))):=by
 go_enter Tryz.func73,Tryz.ntmps73
 go_wp2
 ·go_ret;exact ⟨by simp [inB, *],rfl⟩
 ·go_ret
  refine ⟨?_,rfl⟩
  have : ¬ lo ≤ n:=by omega
  simp [inB,this]
end Go.Bu
namespace Go.Bu
open Go Go.RowKit Go.Plan
def InBlock {α : Type} (n : Nat) (enc : α → List Value) (c : Array Value) (o : Nat) (xs : List α) : Prop:=∀ i x,xs[i]? = some x → ∀ j u,(enc x)[j]? = some u → c[o + i * n + j]? = some u
theorem heap_lt {w : World} {B : Nat} {x : Obj} (h : w.heap[B]? = some x) : B < w.heap.size:=(Array.getElem?_eq_some_iff.1 h).1
def Filled {α : Type} (n : Nat) (enc : α → List Value) (w : World) (B T : Nat) (size : Nat) (xs : List α) : Prop:=∃ c,w.heap[B]? = some (.cells c T (0,0)) ∧ c.size = size ∧ InBlock n enc c 0 xs
theorem Filled.ext {α : Type} {n : Nat} {enc : α → List Value} {w w' : World} {B T size : Nat} {xs : List α} (h : Filled n enc w B T size xs) (he : Ext w w') : Filled n enc w' B T size xs:=by
 obtain ⟨c,h1,h2,h3⟩:=h;exact ⟨c,by rw [he.block _ (heap_lt h1)];exact h1,h2,h3⟩
theorem Filled.there {α : Type} {n : Nat} {enc : α → List Value} {w : World} {B T size : Nat} {xs : List α} (h : Filled n enc w B T size xs) {o m : Nat} (hm : o + m ≤ size) : w.there B o m:=by
 obtain ⟨c,h1,h2,h3⟩:=h
 intro j hj
 rw [cell_block h1,frozen_block h1,Array.getElem?_eq_getElem (by omega)]
 exact ⟨rfl,rfl⟩
theorem Filled.snoc {α : Type} {n : Nat} {enc : α → List Value} (hn : ∀ x,(enc x).length = n) {w : World} {B T size : Nat} {xs : List α} (x : α) (h : Filled n enc w B T size xs) (hs : (xs.length + 1) * n ≤ size) : Filled n enc (setAll w B (xs.length * n) (enc x)) B T size (xs ++ [x]):=by
 obtain ⟨c,h1,h2,h3⟩:=h
 have hle : xs.length * n + (enc x).length ≤ c.size:=by rw [hn,h2,← Nat.succ_mul];exact hs
 obtain ⟨c',g1,g2,g3⟩:=setAll_part (enc x) w (xs.length * n) c h1 hle
 refine ⟨c',g1,by rw [g2,h2],fun i y hy j u hu=>?_⟩
 rw [g3]
 have hj : j < n:=by rw [← hn y];exact (List.getElem?_eq_some_iff.1 hu).1
 by_cases hi : i < xs.length
 ·rw [List.getElem?_append_left hi] at hy
  have : 0 + i * n + j < xs.length * n:=by
   have : (i + 1) * n ≤ xs.length * n:=Nat.mul_le_mul_right n hi
   rw [Nat.succ_mul] at this
   omega
  rw [if_neg (by omega)]
  exact h3 i y hy j u hu
 ·have hie : i = xs.length:=by
   have:=(List.getElem?_eq_some_iff.1 hy).1
   simp at this;omega
  subst hie
  rw [List.getElem?_append_right (Nat.le_refl _)] at hy
  simp at hy
  subst hy
  rw [if_pos (by rw [hn];omega),show 0 + xs.length * n + j - xs.length * n = j by omega]
  exact hu
theorem make_n {P : Program} (t e : TypeId) (z : Array Value) (k bytes : Nat) (ht : P.underlying t = some (.slice e)) (hi : (P.info? e).bind (fun i=>i.zero.map fun z=>(z.cells,i.size,i.bytes)) = some (z,k,bytes)) (n : Nat)
  (hb : bytes * n ≤ 281474976710656) (h63 : n ≤ 9223372036854775807) : ∀ w : World,(Instr.makeSlice t (.int .i64 (n : Int)) (.int .i64 (n : Int))).run P w = .ok (.slice (some ⟨w.heap.size,0,none⟩) n n) (w.alloc (.cells (madeCells z (n * k)) e)):=by
 intro w
 obtain ⟨i,hi1,hi2⟩:=Option.bind_eq_some_iff.1 hi
 obtain ⟨zv,hz,he⟩:=Option.map_eq_some_iff.1 hi2
 obtain ⟨rfl,h⟩:=Prod.mk.inj he
 obtain ⟨rfl,rfl⟩:=Prod.mk.inj h
 have hb' : (i.bytes : Int) * (n : Int) ≤ 281474976710656:=by
  have h : ((i.bytes * n : Nat) : Int) ≤ 281474976710656:=by omega
  rwa [Int.natCast_mul] at h
 have hr:=run_make (P:=P) w t e i zv ht hi1 hz .i64 .i64 n n (by omega) (by omega) hb' (by omega)
 simp only [Int.toNat_natCast] at hr
 exact hr
theorem alloc_get_old {w : World} {o : Obj} {b : Nat} (h : b < w.heap.size) : (w.alloc o).heap[b]? = w.heap[b]?:=(ext_alloc (ext_refl w) o).block b h
theorem alloc_get_new {w : World} {o : Obj} {b : Nat} (h : b = w.heap.size) : (w.alloc o).heap[b]? = some o:=by subst h;exact heap_alloc_new _ _
theorem take_snoc {α : Type} (xs : List α) (k : Nat) (h : k < xs.length) : xs.take k ++ [xs[k]] = xs.take (k + 1):=by rw [List.take_add_one,List.getElem?_eq_getElem h];rfl
theorem ext_set2 {w w' : World} {p : Addr} {u : Value} (hp : w.heap.size ≤ p.block) (h : Ext w w') : Ext w (w'.setCell p u):=h.setCell hp u
theorem ext_alloc2 {w w' : World} {o : Obj} (h : Ext w w') : Ext w (w'.alloc o):=ext_alloc h o
theorem ext_setAll {w0 w : World} (h : Ext w0 w) {B : Nat} (hB : w0.heap.size ≤ B) (k : Nat) (xs : List Value) : Ext w0 (setAll w B k xs):=h.trans (setAll_below B w0.heap.size hB xs w k)
end Go.Bu
namespace Go.Bu
open Go Go.RowKit Go.Plan Go.Proofs
structure Chg (L : List Nat) (w w' : World) : Prop where
 os : w'.os = w.os
 tape : w'.tape = w.tape
 output : w'.output = w.output
 size : w.heap.size ≤ w'.heap.size
 block : ∀ k,k < w.heap.size → k ∉ L → w'.heap[k]? = w.heap[k]?
theorem Chg.refl (L : List Nat) (w : World) : Chg L w w:=⟨rfl,rfl,rfl,Nat.le_refl _,fun _ _ _=>rfl⟩
theorem Chg.trans {L : List Nat} {a b c : World} (h : Chg L a b) (k : Chg L b c) : Chg L a c:=
 ⟨k.os.trans h.os,k.tape.trans h.tape,k.output.trans h.output,Nat.le_trans h.size k.size,fun i hi hn=>(k.block i (Nat.lt_of_lt_of_le hi h.size) hn).trans (h.block i hi hn)⟩
theorem Chg.of_ext {L : List Nat} {a b : World} (h : Ext a b) : Chg L a b:=⟨h.os,h.tape,h.output,h.size,fun i hi _=>h.block i hi⟩
theorem Chg.mono {L L' : List Nat} {a b : World} (h : Chg L a b) (hL : ∀ x ∈ L,x ∈ L') : Chg L' a b:=⟨h.os,h.tape,h.output,h.size,fun i hi hn=>h.block i hi fun hm=>hn (hL i hm)⟩
theorem Chg.set {L : List Nat} {a b : World} (h : Chg L a b) {p : Addr} (hp : p.block ∈ L ∨ a.heap.size ≤ p.block) (u : Value) : Chg L a (b.setCell p u):=by
 refine ⟨h.os,h.tape,h.output,by rw [setCell_size];exact h.size,fun k hk hn=>?_⟩
 have hkp : k ≠ p.block:=by
  rintro rfl
  rcases hp with hp | hp
  ·exact hn hp
  ·omega
 rw [Below.heap_setCell _ _ _ _ hkp];exact h.block k hk hn
theorem Chg.alloc {L : List Nat} {a b : World} (h : Chg L a b) (o : Obj) : Chg L a (b.alloc o):=h.trans (Chg.of_ext (ext_alloc (ext_refl _) _))
theorem Chg.ext {L : List Nat} {w0 a b : World} (h0 : Ext w0 a) (h : Chg L a b) (hL : ∀ x ∈ L,w0.heap.size ≤ x) : Ext w0 b:=
 h0.trans ⟨h.os,h.tape,h.output,h.size,fun k hk=>h.block k (Nat.lt_of_lt_of_le hk h0.size) fun hm=>by have:=hL k hm;omega⟩
structure Rd (w : World) (R : Nat) (bv : Value) (xs : List Nat) (p : Nat) : Prop where
 cells : w.heap[R]? = some (.cells #[bv,.int .i64 p] 58 (0,0))
 bytes : Sl 1 (plain fun n : Nat=>[.int .u8 n]) (fun b=>b < R) w bv xs
 small : ∀ x ∈ xs,x < 256
 len : xs.length ≤ 2000
theorem Rd.next {w w' : World} {R : Nat} {bv : Value} {xs : List Nat} {p : Nat} (h : Rd w R bv xs p) (hx : Ext (w.setCell ⟨R,1,none⟩ (.int .i64 ((p : Int) + 1))) w') : Chg [R] w w' ∧ Rd w' R bv xs (p + 1):=by
 have hlt : R < w.heap.size:=heap_lt h.cells
 have hc : Chg [R] w w':=((Chg.refl [R] w).set (p:=⟨R,1,none⟩) (.inl (by simp)) _).trans (Chg.of_ext hx)
 refine ⟨hc,?_,?_,h.small,h.len⟩
 ·rw [hx.block R (by rw [setCell_size];exact hlt),setCell_block h.cells]
  rfl
 ·exact Sl.same (plain_kept _) h.bytes (fun b hb=>hc.block b (Nat.lt_trans hb hlt) (by simpa using Nat.ne_of_lt hb)) (fun b hb=>hb)
theorem xor_i64_nat (a b : Nat) (ha : a < 4611686018427387904) (hb : b < 4611686018427387904) : bits .xor .i64 (a : Int) (b : Int) = ((a ^^^ b : Nat) : Int):=by
 have h:=Nat.xor_lt_two_pow (n:=62) ha hb
 simp only [bits,BitVec.ofInt_natCast,BitVec.toNat_xor,BitVec.toNat_ofNat]
 rw [Nat.mod_eq_of_lt (show a < 2 ^ IntKind.i64.bits by simp [IntKind.bits];omega),Nat.mod_eq_of_lt (show b < 2 ^ IntKind.i64.bits by simp [IntKind.bits];omega),IntKind.wrap_i64]
 omega
set_option maxHeartbeats 1000000 in
theorem pick_c (R : Nat) (bv : Value) (xs : List Nat) (p : Nat) (m : Int) (w : World) (h : Rd w R bv xs p) (hp : p ≤ 1000000) (hm : m ≤ 1000000) :
  Calls Tryz.prog 19 #[.pointer (some ⟨R,0,none⟩),.int .i64 m] w (fun e w'=>∃ r : Int,e = .returned (.int .i64 r) ∧ 0 ≤ r ∧ (0 < m → r < m) ∧ Chg [R] w w' ∧ Rd w' R bv xs (p + 1)):=by
 have hRd : ∀ w',Ext (w.setCell ⟨R,1,none⟩ (.int .i64 ((p : Int) + 1))) w' → Chg [R] w w' ∧ Rd w' R bv xs (p + 1):=fun w' hx=>h.next hx
 have HRD:=Lib.hid hRd;clear hRd
 obtain ⟨hR,hB,hS,hL⟩:=h
 obtain ⟨a,cap,rfl⟩:=hB.form
 have c0 : w.cell? ⟨R,0,none⟩ = some (.slice a xs.length cap):=by rw [cell_block hR];rfl
 have c1 : w.cell? ⟨R,1,none⟩ = some (.int .i64 p):=by rw [cell_block hR];rfl
 have f1:=frozen_block hR 1
 by_cases hm1 : m < 1
 ·go_enter Tryz.func19,Tryz.ntmps19
  set_option maxRecDepth 20000 in
  go_wp2_with fail
  go_ret
  exact ⟨0,rfl,by omega,by omega,HRD.out _ (ext_refl _)⟩
 by_cases hl : xs.length = 0
 ·have hlb : (((xs.length : Nat) : Int) == 0) = true:=by simp [hl]
  clear hl
  go_enter Tryz.func19,Tryz.ntmps19
  set_option maxRecDepth 20000 in
  go_wp2_with fail
  go_ret
  exact ⟨0,rfl,by omega,fun h=>h,HRD.out _ (ext_refl _)⟩
 have hlb : (((xs.length : Nat) : Int) == 0) = false:=by simp only [beq_eq_false_iff_ne];omega
 have hby0 : ∃ b o,a = some ⟨b,o,none⟩ ∧ b ≠ R ∧ ∀ (k : Nat) (hk : k < xs.length),w.cell? ⟨b,o + k,none⟩ = some (.int .u8 xs[k]):=by
  obtain ⟨b,o,ha,hb,_⟩:=Sl.at hB (k:=0) (by omega)
  refine ⟨b,o,ha,Nat.ne_of_lt hb,fun k hk=>?_⟩
  obtain ⟨b',o',ha',hb',hc'⟩:=Sl.at hB hk
  rw [ha] at ha'
  simp only [Option.some.injEq,Addr.mk.injEq] at ha'
  obtain ⟨rfl,rfl,-⟩:=ha'
  have:=hc' 0 _ rfl
  simpa using this
 obtain ⟨b,o,rfl,hbR,hby⟩:=hby0
 have HB:=Lib.hid hby;clear hby hB
 by_cases hpl : p < xs.length
 ·have hx:=HB.out p hpl
  have hxs:=hS _ (List.getElem_mem hpl)
  have HS:=Lib.hid hS;clear hS
  go_enter Tryz.func19,Tryz.ntmps19
  set_option maxRecDepth 20000 in
  go_wp2_with fail
  go_ret
  exact ⟨_,rfl,Int.emod_nonneg _ (by omega),fun h=>Int.emod_lt_of_pos _ h,HRD.out _ (ext_refl _)⟩
 ·obtain ⟨n,hn⟩ : ∃ n,n = xs.length:=⟨_,rfl⟩
  obtain ⟨i1,hi1⟩ : ∃ i,i = p % xs.length:=⟨_,rfl⟩
  obtain ⟨i2,hi2⟩ : ∃ i,i = (p * 7 + 3) % xs.length:=⟨_,rfl⟩
  obtain ⟨q,hq⟩ : ∃ i,i = p / xs.length:=⟨_,rfl⟩
  have hl1 : i1 < xs.length:=by rw [hi1];exact Nat.mod_lt _ (by omega)
  have hl2 : i2 < xs.length:=by rw [hi2];exact Nat.mod_lt _ (by omega)
  have hqp : q ≤ p:=by rw [hq];exact Nat.div_le_self _ _
  have hx1:=HB.out i1 hl1
  have hx2:=HB.out i2 hl2
  have hs1:=hS _ (List.getElem_mem hl1)
  have hs2:=hS _ (List.getElem_mem hl2)
  have HS:=Lib.hid hS;clear hS
  have H1:=Lib.hid hi1;have H2:=Lib.hid hi2;have HQ:=Lib.hid hq
  clear hi1 hi2 hq
  have E1 : Hid ((p : Int).tmod (xs.length : Int) = (i1 : Int)):=Lib.hid (by rw [H1.out];simp [Int.tmod_eq_emod_of_nonneg])
  have E2 : Hid (((p : Int) * 7 + 3).tmod (xs.length : Int) = (i2 : Int)):=Lib.hid (by rw [H2.out,Int.tmod_eq_emod_of_nonneg (by omega)];simp)
  have E3 : Hid ((p : Int) / (xs.length : Int) = (q : Int)):=Lib.hid (by rw [HQ.out];simp)
  have C0 : (w.setCell ⟨R,1,none⟩ (.int .i64 ((p : Int) + 1))).cell? ⟨R,0,none⟩ = some (.slice (some ⟨b,o,none⟩) xs.length cap):=by rw [cell_block (setCell_block hR)];rfl
  have C1 : (w.setCell ⟨R,1,none⟩ (.int .i64 ((p : Int) + 1))).cell? ⟨b,o + i1,none⟩ = some (.int .u8 xs[i1]):=by rw [← hx1];unfold World.cell?;rw [setCell_other hbR]
  have C2 : (w.setCell ⟨R,1,none⟩ (.int .i64 ((p : Int) + 1))).cell? ⟨b,o + i2,none⟩ = some (.int .u8 xs[i2]):=by rw [← hx2];unfold World.cell?;rw [setCell_other hbR]
  go_enter Tryz.func19,Tryz.ntmps19
  set_option maxRecDepth 20000 in
  go_wp2_with fail
  refine wp_region_ext [] [0,1,2,3,4,5,6,7,8,9,10,11,12,13,14,15,16,17,18,19,20,21,22,23,24,25,26,27,28,29,30,31,32,33,34,35,36,37,38,39,40,41,42,43,44,45] [] [] (by kernel_rfl) (by kernel_rfl) ?late ?_
  case late=>exact fun f hf=>absurd hf List.not_mem_nil
  refine Rob.y (v:=?_) rfl rfl (fun w1 hx hH=>?_) ?_;rotate_left
  ·go_simp;first | done | rfl | exact (Bool.not_not _).symm
  simp only [Act.put,slA,slB,slC]
  refine Rob.y (v:=?_) rfl rfl (fun w1 hx hH=>?_) ?_;rotate_left
  ·(have d0:=cell_ext hx C0;have d1:=cell_ext hx C1;have d2:=cell_ext hx C2);go_simp;first | done | rfl
  simp only [Act.put,slA,slB,slC]
  refine Rob.y (v:=?_) rfl rfl (fun w1 hx hH=>?_) ?_;rotate_left
  ·go_simp;first | done | rfl | exact (Bool.not_not _).symm
  simp only [Act.put,slA,slB,slC]
  refine Rob.y (v:=?_) rfl rfl (fun w1 hx hH=>?_) ?_;rotate_left
  ·(have d0:=cell_ext hx C0;have d1:=cell_ext hx C1;have d2:=cell_ext hx C2);go_simp;first | done | rfl
  simp only [Act.put,slA,slB,slC]
  iterate 2
   refine Rob.y (v:=?_) rfl rfl (fun w1 hx hH=>?_) ?_;rotate_left
   ·go_simp;first | done | rfl | exact (Bool.not_not _).symm
   simp only [Act.put,slA,slB,slC]
  refine Rob.y (v:=?_) rfl rfl (fun w1 hx hH=>?_) ?_;rotate_left
  ·(have d0:=cell_ext hx C0;have d1:=cell_ext hx C1;have d2:=cell_ext hx C2);go_simp;first | done | rfl
  simp only [Act.put,slA,slB,slC]
  refine Rob.y (v:=?_) rfl rfl (fun w1 hx hH=>?_) ?_;rotate_left
  ·go_simp;first | done | rfl | exact (Bool.not_not _).symm
  simp only [Act.put,slA,slB,slC]
  refine Rob.y (v:=?_) rfl rfl (fun w1 hx hH=>?_) ?_;rotate_left
  ·(have d0:=cell_ext hx C0;have d1:=cell_ext hx C1;have d2:=cell_ext hx C2);go_simp;first | done | rfl
  simp only [Act.put,slA,slB,slC]
  refine Rob.y (v:=?_) rfl rfl (fun w1 hx hH=>?_) ?_;rotate_left
  ·go_simp;first | done | rfl | exact (Bool.not_not _).symm
  simp only [Act.put,slA,slB,slC]
  refine Rob.y (v:=.int .i64 (i1 : Int)) rfl rfl (fun w1 hx hH=>?_) ?_
  ·(go_simp;rw [E1.out])
  simp only [Act.put,slA,slB,slC]
  iterate 2
   refine Rob.y (v:=?_) rfl rfl (fun w1 hx hH=>?_) ?_;rotate_left
   ·(have d0:=cell_ext hx C0;have d1:=cell_ext hx C1;have d2:=cell_ext hx C2);go_simp;first | done | rfl
   simp only [Act.put,slA,slB,slC]
  refine Rob.y (v:=.int .i64 (xs[i1] : Int)) rfl rfl (fun w1 hx hH=>?_) ?_
  ·(go_simp;rw [IntKind.wrap_i64];omega)
  simp only [Act.put,slA,slB,slC]
  refine Rob.y (v:=.int .i64 ((xs[i1] * 131 : Nat) : Int)) rfl rfl (fun w1 hx hH=>?_) ?_
  ·(go_simp;rw [IntKind.wrap_i64];omega)
  simp only [Act.put,slA,slB,slC]
  refine Rob.y (v:=?_) rfl rfl (fun w1 hx hH=>?_) ?_;rotate_left
  ·go_simp;first | done | rfl | exact (Bool.not_not _).symm
  simp only [Act.put,slA,slB,slC]
  refine Rob.y (v:=?_) rfl rfl (fun w1 hx hH=>?_) ?_;rotate_left
  ·(have d0:=cell_ext hx C0;have d1:=cell_ext hx C1;have d2:=cell_ext hx C2);go_simp;first | done | rfl
  simp only [Act.put,slA,slB,slC]
  refine Rob.y (v:=?_) rfl rfl (fun w1 hx hH=>?_) ?_;rotate_left
  ·go_simp;first | done | rfl | exact (Bool.not_not _).symm
  simp only [Act.put,slA,slB,slC]
  refine Rob.y (v:=?_) rfl rfl (fun w1 hx hH=>?_) ?_;rotate_left
  ·(have d0:=cell_ext hx C0;have d1:=cell_ext hx C1;have d2:=cell_ext hx C2);go_simp;first | done | rfl
  simp only [Act.put,slA,slB,slC]
  refine Rob.y (v:=?_) rfl rfl (fun w1 hx hH=>?_) ?_;rotate_left
  ·go_simp;first | done | rfl | exact (Bool.not_not _).symm
  simp only [Act.put,slA,slB,slC]
  refine Rob.y (v:=.int .i64 ((p * 7 : Nat) : Int)) rfl rfl (fun w1 hx hH=>?_) ?_
  ·(go_simp;rw [IntKind.wrap_i64];omega)
  simp only [Act.put,slA,slB,slC]
  refine Rob.y (v:=.int .i64 ((p * 7 + 3 : Nat) : Int)) rfl rfl (fun w1 hx hH=>?_) ?_
  ·(go_simp;rw [IntKind.wrap_i64];omega)
  simp only [Act.put,slA,slB,slC]
  refine Rob.y (v:=?_) rfl rfl (fun w1 hx hH=>?_) ?_;rotate_left
  ·go_simp;first | done | rfl | exact (Bool.not_not _).symm
  simp only [Act.put,slA,slB,slC]
  refine Rob.y (v:=?_) rfl rfl (fun w1 hx hH=>?_) ?_;rotate_left
  ·(have d0:=cell_ext hx C0;have d1:=cell_ext hx C1;have d2:=cell_ext hx C2);go_simp;first | done | rfl
  simp only [Act.put,slA,slB,slC]
  refine Rob.y (v:=?_) rfl rfl (fun w1 hx hH=>?_) ?_;rotate_left
  ·go_simp;first | done | rfl | exact (Bool.not_not _).symm
  simp only [Act.put,slA,slB,slC]
  refine Rob.y (v:=?_) rfl rfl (fun w1 hx hH=>?_) ?_;rotate_left
  ·(have d0:=cell_ext hx C0;have d1:=cell_ext hx C1;have d2:=cell_ext hx C2);go_simp;first | done | rfl
  simp only [Act.put,slA,slB,slC]
  refine Rob.y (v:=?_) rfl rfl (fun w1 hx hH=>?_) ?_;rotate_left
  ·go_simp;first | done | rfl | exact (Bool.not_not _).symm
  simp only [Act.put,slA,slB,slC]
  refine Rob.y (v:=.int .i64 (i2 : Int)) rfl rfl (fun w1 hx hH=>?_) ?_
  ·(go_simp;rw [E2.out])
  simp only [Act.put,slA,slB,slC]
  iterate 2
   refine Rob.y (v:=?_) rfl rfl (fun w1 hx hH=>?_) ?_;rotate_left
   ·(have d0:=cell_ext hx C0;have d1:=cell_ext hx C1;have d2:=cell_ext hx C2);go_simp;first | done | rfl
   simp only [Act.put,slA,slB,slC]
  refine Rob.y (v:=.int .i64 (xs[i2] : Int)) rfl rfl (fun w1 hx hH=>?_) ?_
  ·(go_simp;rw [IntKind.wrap_i64];omega)
  simp only [Act.put,slA,slB,slC]
  refine Rob.y (v:=.int .i64 ((xs[i2] * 1117 : Nat) : Int)) rfl rfl (fun w1 hx hH=>?_) ?_
  ·(go_simp;rw [IntKind.wrap_i64];omega)
  simp only [Act.put,slA,slB,slC]
  refine Rob.y (v:=.int .i64 ((xs[i1] * 131 + xs[i2] * 1117 : Nat) : Int)) rfl rfl (fun w1 hx hH=>?_) ?_
  ·(go_simp;rw [IntKind.wrap_i64];omega)
  simp only [Act.put,slA,slB,slC]
  refine Rob.y (v:=?_) rfl rfl (fun w1 hx hH=>?_) ?_;rotate_left
  ·go_simp;first | done | rfl | exact (Bool.not_not _).symm
  simp only [Act.put,slA,slB,slC]
  refine Rob.y (v:=.int .i64 ((p * 29 : Nat) : Int)) rfl rfl (fun w1 hx hH=>?_) ?_
  ·(go_simp;rw [IntKind.wrap_i64];omega)
  simp only [Act.put,slA,slB,slC]
  refine Rob.y (v:=.int .i64 ((xs[i1] * 131 + xs[i2] * 1117 + p * 29 : Nat) : Int)) rfl rfl (fun w1 hx hH=>?_) ?_
  ·(go_simp;rw [IntKind.wrap_i64];omega)
  simp only [Act.put,slA,slB,slC]
  iterate 2
   refine Rob.y (v:=?_) rfl rfl (fun w1 hx hH=>?_) ?_;rotate_left
   ·go_simp;first | done | rfl | exact (Bool.not_not _).symm
   simp only [Act.put,slA,slB,slC]
  refine Rob.y (v:=?_) rfl rfl (fun w1 hx hH=>?_) ?_;rotate_left
  ·(have d0:=cell_ext hx C0;have d1:=cell_ext hx C1;have d2:=cell_ext hx C2);go_simp;first | done | rfl
  simp only [Act.put,slA,slB,slC]
  refine Rob.y (v:=?_) rfl rfl (fun w1 hx hH=>?_) ?_;rotate_left
  ·go_simp;first | done | rfl | exact (Bool.not_not _).symm
  simp only [Act.put,slA,slB,slC]
  refine Rob.y (v:=?_) rfl rfl (fun w1 hx hH=>?_) ?_;rotate_left
  ·(have d0:=cell_ext hx C0;have d1:=cell_ext hx C1;have d2:=cell_ext hx C2);go_simp;first | done | rfl
  simp only [Act.put,slA,slB,slC]
  refine Rob.y (v:=?_) rfl rfl (fun w1 hx hH=>?_) ?_;rotate_left
  ·go_simp;first | done | rfl | exact (Bool.not_not _).symm
  simp only [Act.put,slA,slB,slC]
  refine Rob.y (v:=.int .i64 (q : Int)) rfl rfl (fun w1 hx hH=>?_) ?_
  ·(go_simp;rw [E3.out,IntKind.wrap_i64];omega)
  simp only [Act.put,slA,slB,slC]
  refine Rob.y (v:=.int .i64 ((q * 53 : Nat) : Int)) rfl rfl (fun w1 hx hH=>?_) ?_
  ·(go_simp;rw [IntKind.wrap_i64];omega)
  simp only [Act.put,slA,slB,slC]
  refine Rob.y (v:=.int .i64 ((xs[i1] * 131 + xs[i2] * 1117 + p * 29 + q * 53 : Nat) : Int)) rfl rfl (fun w1 hx hH=>?_) ?_
  ·(go_simp;rw [IntKind.wrap_i64];omega)
  simp only [Act.put,slA,slB,slC]
  refine Rob.y (v:=?_) rfl rfl (fun w1 hx hH=>?_) ?_;rotate_left
  ·go_simp;first | done | rfl | exact (Bool.not_not _).symm
  simp only [Act.put,slA,slB,slC]
  refine fin_nil (fun w1 hx1 _=>?_)
  obtain ⟨t,ht⟩ : ∃ t,t = xs[i1] * 131 + xs[i2] * 1117 + p * 29 + q * 53:=⟨_,rfl⟩
  have ht1 : t < 4611686018427387904:=by omega
  have htz : ((xs[i1] : Int) * 131 + (xs[i2] : Int) * 1117 + (p : Int) * 29 + (q : Int) * 53) = (t : Int):=by omega
  have hxr : bits .xor .i64 ((xs[i1] : Int) * 131 + (xs[i2] : Int) * 1117 + (p : Int) * 29 + (q : Int) * 53) (((xs[i1] : Int) * 131 + (xs[i2] : Int) * 1117 + (p : Int) * 29 + (q : Int) * 53) / 64) = ((t ^^^ (t / 64) : Nat) : Int):=by
   rw [htz,show ((t : Int) / 64) = ((t / 64 : Nat) : Int) by omega,xor_i64_nat _ _ ht1 (by omega)]
  clear htz
  have HT:=Lib.hid ht;clear ht
  go_wp2
  go_ret
  refine ⟨_,rfl,?_,fun h=>?_,HRD.out _ hx1⟩
  ·exact Int.emod_nonneg _ (by omega)
  ·exact Int.emod_lt_of_pos _ h
abbrev Bytes (D : Nat → Prop) (w : World) (v : Value) (xs : List Nat) : Prop:=Sl 1 (plain fun n : Nat=>[.int .u8 n]) D w v xs
theorem Sl.take {α : Type} {n : Nat} {E : Enc α} {D : Nat → Prop} {w : World} {a : Option Addr} {len cap : Nat} {xs : List α} (h : Sl n E D w (.slice a len cap) xs) (k : Nat) (hk : k ≤ xs.length) : Sl n E D w (.slice a k cap) (xs.take k):=by
 obtain ⟨a',cap',hv,hx⟩:=h
 injection hv with h1 h2 h3
 subst h1 h3
 refine ⟨a,cap,by rw [List.length_take,Nat.min_eq_left hk],fun i x hi=>hx i x ?_⟩
 have hik : i < k:=by
  have:=(List.getElem?_eq_some_iff.1 hi).1
  simp at this;omega
 rwa [List.getElem?_take_of_lt hik] at hi
theorem Rd.made {w : World} {bv : Value} {ys : List Nat} (h : Bytes (Old w) w bv ys) (hs : ∀ x ∈ ys,x < 256) (hl : ys.length ≤ 2000) : Rd (w.alloc (.cells #[bv,.int .i64 0] 58)) w.heap.size bv ys 0:=by
 refine ⟨alloc_get_new rfl,?_,hs,hl⟩
 exact Sl.same (plain_kept _) h (fun b hb=>alloc_get_old hb) (fun b hb=>hb)
theorem l6Open_c (v : Value) (xs : List Nat) (w : World) (h : Bytes (Old w) w v xs) (hs : ∀ x ∈ xs,x < 256) (hn : xs.length ≤ 1048576) (hcap : ∀ a n c,v = .slice a n c → n ≤ c) :
  Calls Tryz.prog 18 #[v] w (fun e w'=>∃ R bv ys,e = .returned (.pointer (some ⟨R,0,none⟩)) ∧ w.heap.size ≤ R ∧ Ext w w' ∧ Rd w' R bv ys 0):=by
 obtain ⟨a,cap,rfl⟩:=h.form
 have hc:=hcap _ _ _ rfl
 clear hcap
 by_cases hl : xs.length ≤ 2000
 ·go_enter Tryz.func18,Tryz.ntmps18
  go_wp2_with fail
  refine bodyPost_ret (v:=.pointer (some ⟨w.heap.size,0,none⟩)) (by simp [results,Tryz.results18,go_sem]) rfl ⟨_,_,xs,rfl,Nat.le_refl _,ext_alloc (ext_refl _) _,Rd.made h hs hl⟩
 ·have H:=Lib.hid (h.take 2000 (by omega))
  go_enter Tryz.func18,Tryz.ntmps18
  go_wp2_with fail
  refine bodyPost_ret (v:=.pointer (some ⟨w.heap.size,0,none⟩)) (by simp [results,Tryz.results18,go_sem]) rfl ⟨_,_,xs.take 2000,rfl,Nat.le_refl _,ext_alloc (ext_refl _) _,Rd.made ?_ (fun x hx=>hs x (List.mem_of_mem_take hx)) (by simp;omega)⟩
  exact H.out
end Go.Bu
namespace Go.Bu
open Go Go.RowKit Go.Plan Go.Proofs
theorem Chg.keep {L : List Nat} {w w' : World} {b : Nat} {o : Obj} (h : Chg L w w') (hb : w.heap[b]? = some o) (hL : b ∉ L) : w'.heap[b]? = some o:=by rw [h.block b (heap_lt hb) hL];exact hb
theorem keep_ext {w w' : World} {b : Nat} {o : Obj} (h : Ext w w') (hb : w.heap[b]? = some o) : w'.heap[b]? = some o:=by rw [h.block b (heap_lt hb)];exact hb
theorem Rd.ext {w w' : World} {R : Nat} {bv : Value} {xs : List Nat} {p : Nat} (h : Rd w R bv xs p) (hx : Ext w w') : Rd w' R bv xs p:=
 ⟨by rw [hx.block R (heap_lt h.cells)];exact h.cells,Sl.same (plain_kept _) h.bytes (fun b hb=>hx.block b (Nat.lt_trans hb (heap_lt h.cells))) (fun b hb=>hb),h.small,h.len⟩
theorem Chg.set2 {L : List Nat} {a b : World} {p : Addr} {u : Value} (hp : p.block ∈ L ∨ a.heap.size ≤ p.block) (h : Chg L a b) : Chg L a (b.setCell p u):=h.set hp u
theorem Chg.alloc2 {L : List Nat} {a b : World} {o : Obj} (h : Chg L a b) : Chg L a (b.alloc o):=h.alloc o
theorem Rd.lt {w : World} {R : Nat} {bv : Value} {xs : List Nat} {p : Nat} (h : Rd w R bv xs p) : R < w.heap.size:=heap_lt h.cells
end Go.Bu
namespace Go.Bu
open Go Go.RowKit Go.Plan Go.Proofs
def OwnAt {α : Type} (n : Nat) (enc : α → List Value) (T : TypeId) (w : World) (B o : Nat) (xs : List α) : Prop:=∃ c,w.heap[B]? = some (.cells c T (0,0)) ∧ InBlock n enc c o xs
section
variable {α : Type} {n : Nat} {enc : α → List Value} {T : TypeId} {w w' : World} {B o : Nat} {xs : List α}
theorem OwnAt.lt (h : OwnAt n enc T w B o xs) : B < w.heap.size:=by obtain ⟨c,hc,_⟩:=h;exact heap_lt hc
theorem OwnAt.keep (h : OwnAt n enc T w B o xs) (hb : w'.heap[B]? = w.heap[B]?) : OwnAt n enc T w' B o xs:=by obtain ⟨c,hc,hi⟩:=h;exact ⟨c,by rw [hb];exact hc,hi⟩
theorem OwnAt.ext (h : OwnAt n enc T w B o xs) (he : Ext w w') : OwnAt n enc T w' B o xs:=h.keep (he.block _ h.lt)
theorem OwnAt.chg {L : List Nat} (h : OwnAt n enc T w B o xs) (he : Chg L w w') (hB : B ∉ L) : OwnAt n enc T w' B o xs:=h.keep (he.block _ h.lt hB)
theorem OwnAt.cell (h : OwnAt n enc T w B o xs) {k : Nat} {x : α} (hk : xs[k]? = some x) {j : Nat} {u : Value} (hu : (enc x)[j]? = some u) : w.cell? ⟨B,o + k * n + j,none⟩ = some u:=by
 obtain ⟨c,hc,hi⟩:=h;rw [cell_block hc];exact hi k x hk j u hu
theorem OwnAt.frozen (h : OwnAt n enc T w B o xs) (j : Nat) : w.frozen? ⟨B,j,none⟩ = false:=by obtain ⟨c,hc,_⟩:=h;exact frozen_block hc j
theorem OwnAt.of (h : OwnAt n enc T w B o xs) {D : Nat → Prop} (hD : D B) (cap : Nat) : Sl n (plain enc) D w (.slice (some ⟨B,o,none⟩) xs.length cap) xs:=by
 obtain ⟨c,hc,hi⟩:=h
 exact ⟨_,cap,rfl,fun i x hx=>⟨B,o,enc x,rfl,hD,rfl,fun j u hu=>by rw [cell_block hc];exact hi i x hx j u hu⟩⟩
theorem OwnAt.set (hn : ∀ x,(enc x).length = n) (hp : 0 < n) (h : OwnAt n enc T w B o xs) {k : Nat} (hk : k < xs.length) (y : α) : OwnAt n enc T (setAll w B (o + k * n) (enc y)) B o (xs.set k y):=by
 obtain ⟨c,hc,hi⟩:=h
 have hle : o + k * n + (enc y).length ≤ c.size:=by
  rw [hn]
  have:=hi k xs[k] (List.getElem?_eq_getElem hk) (n - 1) ((enc xs[k])[n - 1]'(by rw [hn];omega)) (List.getElem?_eq_getElem _)
  have:=(Array.getElem?_eq_some_iff.1 this).1
  omega
 obtain ⟨c',g1,g2,g3⟩:=setAll_part (enc y) w (o + k * n) c hc hle
 refine ⟨c',g1,fun i x hx j u hu=>?_⟩
 rw [g3]
 have hj : j < n:=by rw [← hn x];exact (List.getElem?_eq_some_iff.1 hu).1
 by_cases hik : i = k
 ·subst hik
  rw [List.getElem?_set_self hk] at hx
  obtain rfl:=Option.some.inj hx
  rw [if_pos (by rw [hn];omega),show o + i * n + j - (o + i * n) = j by omega]
  exact hu
 ·rw [List.getElem?_set_ne (Ne.symm hik)] at hx
  rw [if_neg ?_]
  ·exact hi i x hx j u hu
  ·rw [hn]
   rcases Nat.lt_or_gt_of_ne hik with h | h
   ·have : (i + 1) * n ≤ k * n:=Nat.mul_le_mul_right n h
    rw [Nat.succ_mul] at this;omega
   ·have : (k + 1) * n ≤ i * n:=Nat.mul_le_mul_right n h
    rw [Nat.succ_mul] at this;omega
theorem OwnAt.set1 (hn : ∀ x,(enc x).length = n) (h : OwnAt n enc T w B o xs) {k : Nat} (hk : k < xs.length) {j : Nat} (hj : j < n) (u : Value) (y : α) (hy : enc y = (enc xs[k]).set j u) : OwnAt n enc T (w.setCell ⟨B,o + k * n + j,none⟩ u) B o (xs.set k y):=by
 obtain ⟨c,hc,hi⟩:=h
 refine ⟨_,setCell_block hc,fun i x hx l t hu=>?_⟩
 have hl : l < n:=by rw [← hn x];exact (List.getElem?_eq_some_iff.1 hu).1
 by_cases hik : i = k
 ·subst hik
  rw [List.getElem?_set_self hk] at hx
  obtain rfl:=Option.some.inj hx
  rw [hy] at hu
  have hc0:=hi i xs[i] (List.getElem?_eq_getElem hk)
  by_cases hlj : l = j
  ·subst hlj
   rw [List.getElem?_set_self (by rw [hn];exact hl)] at hu
   have:=(Array.getElem?_eq_some_iff.1 (hc0 l ((enc xs[i])[l]'(by rw [hn];exact hl)) (List.getElem?_eq_getElem _))).1
   rw [Array.getElem?_setIfInBounds_self_of_lt this];exact hu
  ·rw [List.getElem?_set_ne (Ne.symm hlj)] at hu
   rw [Array.getElem?_setIfInBounds_ne (by omega)]
   exact hc0 l t hu
 ·rw [List.getElem?_set_ne (Ne.symm hik)] at hx
  rw [Array.getElem?_setIfInBounds_ne ?_]
  ·exact hi i x hx l t hu
  ·rcases Nat.lt_or_gt_of_ne hik with h | h
   ·have : (i + 1) * n ≤ k * n:=Nat.mul_le_mul_right n h
    rw [Nat.succ_mul] at this;omega
   ·have : (k + 1) * n ≤ i * n:=Nat.mul_le_mul_right n h
    rw [Nat.succ_mul] at this;omega
end
def OwnT {α : Type} (n : Nat) (enc : α → List Value) (T : TypeId) (w : World) (v : Value) (xs : List α) (B : Nat) : Prop:=∃ o cap,v = .slice (some ⟨B,o,none⟩) xs.length (xs.length + cap) ∧ OwnAt n enc T w B o xs
section
variable {α : Type} {n : Nat} {enc : α → List Value} {T : TypeId} {w w' : World} {v : Value} {B : Nat} {xs : List α}
theorem OwnT.lt (h : OwnT n enc T w v xs B) : B < w.heap.size:=by obtain ⟨o,cap,_,ha⟩:=h;exact ha.lt
theorem OwnT.keep (h : OwnT n enc T w v xs B) (hb : w'.heap[B]? = w.heap[B]?) : OwnT n enc T w' v xs B:=by obtain ⟨o,cap,hv,ha⟩:=h;exact ⟨o,cap,hv,ha.keep hb⟩
theorem OwnT.ext (h : OwnT n enc T w v xs B) (he : Ext w w') : OwnT n enc T w' v xs B:=h.keep (he.block _ h.lt)
theorem OwnT.sl (h : OwnT n enc T w v xs B) {D : Nat → Prop} (hD : D B) : Sl n (plain enc) D w v xs:=by obtain ⟨o,cap,rfl,ha⟩:=h;exact ha.of hD _
theorem OwnT.old (h : OwnT n enc T w v xs B) : Sl n (plain enc) (Old w) w v xs:=h.sl h.lt
theorem OwnT.block (h : OwnT n enc T w v xs B) : ∃ c,w.heap[B]? = some (.cells c T (0,0)):=by obtain ⟨o,cap,_,c,hc,_⟩:=h;exact ⟨c,hc⟩
end
def OwnV {α : Type} (n : Nat) (enc : α → List Value) (w : World) (v : Value) (xs : List α) (B : Nat) : Prop:=∃ T,OwnT n enc T w v xs B
section
variable {α : Type} {n : Nat} {enc : α → List Value} {w w' : World} {v : Value} {B : Nat} {xs : List α}
theorem OwnT.any {T : TypeId} (h : OwnT n enc T w v xs B) : OwnV n enc w v xs B:=⟨T,h⟩
theorem OwnV.lt (h : OwnV n enc w v xs B) : B < w.heap.size:=by obtain ⟨T,h⟩:=h;exact h.lt
theorem OwnV.keep (h : OwnV n enc w v xs B) (hb : w'.heap[B]? = w.heap[B]?) : OwnV n enc w' v xs B:=by obtain ⟨T,h⟩:=h;exact ⟨T,h.keep hb⟩
theorem OwnV.ext (h : OwnV n enc w v xs B) (he : Ext w w') : OwnV n enc w' v xs B:=h.keep (he.block _ h.lt)
theorem OwnV.old (h : OwnV n enc w v xs B) : Sl n (plain enc) (Old w) w v xs:=by obtain ⟨T,h⟩:=h;exact h.old
end
abbrev intC (n : Int) : List Value:=[.int .i64 n]
abbrev rowC (r : Value × Int) : List Value:=[r.1,.int .i64 r.2]
abbrev OwnPages (w : World) (v : Value) (ps : List Page) (b : Nat) : Prop:=OwnV 5 pageC w v ps b
abbrev OwnInts (w : World) (v : Value) (xs : List Int) (b : Nat) : Prop:=OwnV 1 intC w v xs b
def OwnFlash (w : World) (v : Value) (f : List Block) (B : Nat) (bs : List Nat) : Prop:=
 ∃ rows,OwnV 2 rowC w v rows B ∧ rows.length = f.length ∧ bs.length = f.length ∧
  ∀ (i : Nat) x r b,f[i]? = some x → rows[i]? = some r → bs[i]? = some b → r.2 = x.worn ∧ OwnPages w r.1 x.pages b
theorem OwnFlash.lt {w : World} {v : Value} {f : List Block} {B : Nat} {bs : List Nat} (h : OwnFlash w v f B bs) : ∀ b ∈ B :: bs,b < w.heap.size:=by
 obtain ⟨rows,h1,h2,h3,h4⟩:=h
 intro b hb
 rcases List.mem_cons.1 hb with rfl | hb
 ·exact h1.lt
 ·obtain ⟨i,hi,rfl⟩:=List.mem_iff_getElem.1 hb
  exact (h4 i f[i] rows[i] bs[i] (List.getElem?_eq_getElem (by omega)) (List.getElem?_eq_getElem (by omega)) (List.getElem?_eq_getElem _)).2.lt
theorem OwnFlash.keep {w w' : World} {v : Value} {f : List Block} {B : Nat} {bs : List Nat} (h : OwnFlash w v f B bs) (hb : ∀ b ∈ B :: bs,w'.heap[b]? = w.heap[b]?) : OwnFlash w' v f B bs:=by
 obtain ⟨rows,h1,h2,h3,h4⟩:=h
 refine ⟨rows,h1.keep (hb B (by simp)),h2,h3,fun i x r b hx hr hbi=>?_⟩
 obtain ⟨h5,h6⟩:=h4 i x r b hx hr hbi
 exact ⟨h5,h6.keep (hb b (List.mem_cons_of_mem _ (List.mem_of_getElem? hbi)))⟩
theorem OwnFlash.ext {w w' : World} {v : Value} {f : List Block} {B : Nat} {bs : List Nat} (h : OwnFlash w v f B bs) (he : Ext w w') : OwnFlash w' v f B bs:=h.keep fun b hb=>he.block b (h.lt b hb)
theorem OwnFlash.flash {w : World} {v : Value} {f : List Block} {B : Nat} {bs : List Nat} (h : OwnFlash w v f B bs) : Flash (Old w) w v f:=by
 have hlt:=h.lt
 obtain ⟨rows,⟨T,o,cap,hv,c,hc,hi⟩,h2,h3,h4⟩:=h
 refine ⟨some ⟨B,o,none⟩,f.length + cap,by rw [hv,h2],fun i x hx=>?_⟩
 have hil : i < f.length:=(List.getElem?_eq_some_iff.1 hx).1
 obtain ⟨h5,h6⟩:=h4 i x rows[i] bs[i] hx (List.getElem?_eq_getElem (by omega)) (List.getElem?_eq_getElem (by omega))
 refine ⟨B,o,rowC rows[i],rfl,hlt B (by simp),⟨rows[i].1,by rw [← h5],h6.old⟩,fun j u hu=>?_⟩
 rw [cell_block hc]
 exact hi i rows[i] (List.getElem?_eq_getElem (by omega)) j u hu
def OwnStore (w : World) (f d : Value) (s : Store) (L : List Nat) : Prop:=∃ B bs D,L = B :: bs ++ [D] ∧ OwnFlash w f s.flash B bs ∧ OwnInts w d s.disk D
theorem OwnStore.lt {w : World} {f d : Value} {s : Store} {L : List Nat} (h : OwnStore w f d s L) : ∀ b ∈ L,b < w.heap.size:=by
 obtain ⟨B,bs,D,rfl,h1,h2⟩:=h
 intro b hb
 rcases List.mem_append.1 hb with hb | hb
 ·exact h1.lt b hb
 ·obtain rfl:=List.mem_singleton.1 hb;exact h2.lt
theorem OwnStore.keep {w w' : World} {f d : Value} {s : Store} {L : List Nat} (h : OwnStore w f d s L) (hb : ∀ b ∈ L,w'.heap[b]? = w.heap[b]?) : OwnStore w' f d s L:=by
 obtain ⟨B,bs,D,rfl,h1,h2⟩:=h
 exact ⟨B,bs,D,rfl,h1.keep fun b hm=>hb b (List.mem_append_left _ hm),h2.keep (hb D (by simp))⟩
theorem OwnStore.ext {w w' : World} {f d : Value} {s : Store} {L : List Nat} (h : OwnStore w f d s L) (he : Ext w w') : OwnStore w' f d s L:=h.keep fun b hb=>he.block b (h.lt b hb)
theorem OwnStore.chg {w w' : World} {f d : Value} {s : Store} {L K : List Nat} (h : OwnStore w f d s L) (he : Chg K w w') (hL : ∀ b ∈ L,b ∉ K) : OwnStore w' f d s L:=h.keep fun b hb=>he.block b (h.lt b hb) (hL b hb)
theorem OwnStore.flash {w : World} {f d : Value} {s : Store} {L : List Nat} (h : OwnStore w f d s L) : Flash (Old w) w f s.flash:=by obtain ⟨B,bs,D,rfl,h1,h2⟩:=h;exact h1.flash
theorem OwnStore.disk {w : World} {f d : Value} {s : Store} {L : List Nat} (h : OwnStore w f d s L) : Ints (Old w) w d s.disk:=by obtain ⟨B,bs,D,rfl,h1,h2⟩:=h;exact h2.old
theorem OwnAt.two {T : TypeId} {w : World} {B o : Nat} {xs : List (Value × Int)} (h : OwnAt 2 rowC T w B o xs) {k : Nat} (hk : k < xs.length) :
  w.cell? ⟨B,o + k * 2,none⟩ = some xs[k].1 ∧ w.cell? ⟨B,o + k * 2 + 1,none⟩ = some (.int .i64 xs[k].2):=by
 have hx:=List.getElem?_eq_getElem hk
 exact ⟨h.cell hx (j:=0) rfl,h.cell hx (j:=1) rfl⟩
theorem nodup_inj {l : List Nat} (h : l.Nodup) {i j b : Nat} (hi : l[i]? = some b) (hj : l[j]? = some b) : i = j:=by
 obtain ⟨h1,e1⟩:=List.getElem?_eq_some_iff.1 hi
 obtain ⟨h2,e2⟩:=List.getElem?_eq_some_iff.1 hj
 rcases Nat.lt_trichotomy i j with hl | hl | hl
 ·exact absurd (e1.trans e2.symm) (List.pairwise_iff_getElem.1 h i j h1 h2 hl)
 ·exact hl
 ·exact absurd (e2.trans e1.symm) (List.pairwise_iff_getElem.1 h j i h2 h1 hl)
theorem OwnAt.one {T : TypeId} {w : World} {B o : Nat} {xs : List Int} (h : OwnAt 1 intC T w B o xs) {k : Nat} (hk : k < xs.length) : w.cell? ⟨B,o + k,none⟩ = some (.int .i64 xs[k]):=by
 have:=h.cell (List.getElem?_eq_getElem hk) (j:=0) rfl
 simpa using this
end Go.Bu
namespace Go.Bu
open Go Go.RowKit Go.Plan Go.Proofs
theorem flat_get {α : Type} {n : Nat} {enc : α → List Value} (hn : ∀ x,(enc x).length = n) : ∀ (xs : List α) (i : Nat) (x : α) (j : Nat) (u : Value),xs[i]? = some x → (enc x)[j]? = some u → (xs.flatMap enc)[i * n + j]? = some u
 | [],i,x,j,u,h,_=>by simp at h
 | y :: ys,0,x,j,u,h,hu=>by
  simp at h;subst h
  have hj:=(List.getElem?_eq_some_iff.1 hu).1
  rw [List.flatMap_cons,Nat.zero_mul,Nat.zero_add,List.getElem?_append_left hj];exact hu
 | y :: ys,i + 1,x,j,u,h,hu=>by
  rw [List.flatMap_cons,List.getElem?_append_right (by rw [hn,Nat.succ_mul];omega),hn,show (i + 1) * n + j - n = i * n + j by rw [Nat.succ_mul];omega]
  exact flat_get hn ys i x j u (by simpa using h) hu
theorem OwnT.of_owns {α : Type} {n : Nat} {enc : α → List Value} {e : TypeId} (hn : ∀ x,(enc x).length = n) {base : Nat} {w : World} {v : Value} {xs : List α} (h : w.ownsRow base e n v xs.length (xs.flatMap enc)) (h0 : xs ≠ []) : ∃ B,base ≤ B ∧ OwnT n enc e w v xs B:=by
 obtain ⟨h1,h2⟩:=h
 rcases h2 with ⟨_,h2⟩ | ⟨g,cap,cur,hv,hb,hh,hc,hm,hs,ht⟩
 ·exact absurd (List.length_eq_zero_iff.1 h2) h0
 ·refine ⟨g,hb,0,cap - xs.length,by rw [hv];congr 1;omega,cur,hh,fun i x hx j u hu=>?_⟩
  have:=flat_get hn xs i x j u hx hu
  rw [← ht] at this
  have hlt:=(List.getElem?_eq_some_iff.1 this).1
  rw [List.length_take] at hlt
  rw [List.getElem?_take_of_lt (by omega)] at this
  rw [Nat.zero_add]
  simpa using this
theorem wpList_app {P : Program} {w : World} {ops : Array Oper} {rest : List Oper} {o : Oper} {a : Act} {Q : Exit → Act → World → Prop} (hgd : o.guard = none) (s x : Operand) (t : TypeId)
  (ho : o.op = .call { callee:=.builtin .append,args:=#[s,x],argTypes:=#[t,t] })
  (base : Nat) (e : TypeId) (size bytes : Nat) (ht : P.underlying t = some (.slice e)) (hi : (P.info? e).bind (fun i=>i.zero.map fun z=>(z.cells.size,i.size,i.bytes)) = some (size,size,bytes)) (hsz : 0 < size)
  (v : Value) (n : Nat) (xs : List Value) (hs : a.eval s = v) (hown : w.ownsRow base e size v n xs)
  (ad : Addr) (m c : Nat) (news : List Value) (hx : a.eval x = .slice (some ad) m c) (hl : news.length = m * size) (hnews : ∀ j u,news[j]? = some u → w.cell? (ad.add j) = some u) (h1 : ∀ u ∈ news,u.oneCell' = true)
  (h63 : n + m ≤ maxLen) (hbytes : (n + m) * bytes ≤ 140737488355328) (hbase : base ≤ w.heap.size)
  (h : ∀ v' w',w'.ownsRow base e size v' (n + m) (xs ++ news) → w.grownBy w' v.ownBlock → wpList P ops Q rest (a.put o.dst v') w') : wpList P ops Q (o :: rest) a w:=by
 obtain ⟨i,hi1,hi2⟩:=Option.bind_eq_some_iff.1 hi
 obtain ⟨z,hz,he⟩:=Option.map_eq_some_iff.1 hi2
 obtain ⟨hzs,he⟩:=Prod.mk.inj he
 obtain ⟨hsize,hby⟩:=Prod.mk.inj he
 exact wpList_append_own w hgd s x t ho base e i z size bytes ht hi1 hz hsize hby hzs hsz v n xs hs hown ad m c news hx hl hnews h1 h63 hbytes hbase fun v' w' h2 h3 _=>h v' w' h2 h3
def zPage : Page:=⟨0,⟨0,0,0,0⟩⟩
def newBlock : Block:=⟨[zPage,zPage,zPage,zPage],0⟩
def newFlash : List Block:=[newBlock,newBlock,newBlock,newBlock]
def newStore : Store:=⟨newFlash,[0,0,0,0,0,0]⟩
theorem OwnT.zeros {w : World} {B T : Nat} (h : w.heap[B]? = some (.cells (madeCells #[.int .i64 0,.int .i64 0,.int .i64 0,.int .i64 0,.int .i64 0] 20) T (0,0))) : OwnT 5 pageC T w (.slice (some ⟨B,0,none⟩) 4 4) newBlock.pages B:=by
 refine ⟨0,0,rfl,_,h,fun i x hx j u hu=>?_⟩
 have hi : i < 4:=(List.getElem?_eq_some_iff.1 hx).1
 have hxz : x = zPage:=by
  match i,hi with
  | 0,_=>simpa [newBlock] using hx.symm
  | 1,_=>simpa [newBlock] using hx.symm
  | 2,_=>simpa [newBlock] using hx.symm
  | 3,_=>simpa [newBlock] using hx.symm
 subst hxz
 have hj : j < 5:=(List.getElem?_eq_some_iff.1 hu).1
 have hu0 : u = .int .i64 0:=by
  match j,hj with
  | 0,_=>simpa [zPage] using hu.symm
  | 1,_=>simpa [zPage] using hu.symm
  | 2,_=>simpa [zPage] using hu.symm
  | 3,_=>simpa [zPage] using hu.symm
  | 4,_=>simpa [zPage] using hu.symm
 subst hu0
 have hlt : 0 + i * 5 + j < 20:=by omega
 generalize 0 + i * 5 + j = m at hlt
 simp only [madeCells,Array.getElem?_map,Array.getElem?_range,hlt,if_true,Option.map_some]
 have hm : m % 5 < 5:=Nat.mod_lt _ (by omega)
 show some ((#[Value.int .i64 0,.int .i64 0,.int .i64 0,.int .i64 0,.int .i64 0] : Array Value)[m % 5]!) = _
 generalize m % 5 = q at hm
 match q,hm with
 | 0,_=>rfl
 | 1,_=>rfl
 | 2,_=>rfl
 | 3,_=>rfl
 | 4,_=>rfl
theorem OwnT.grown {α : Type} {n : Nat} {enc : α → List Value} {T e : TypeId} {w w' : World} {v u : Value} {xs : List α} {B base size m : Nat} {ys : List Value} (h : OwnT n enc T w v xs B) (hu : w.ownsRow base e size u m ys) (hT : T ≠ e) (hg : w.grownBy w' u.ownBlock) : OwnT n enc T w' v xs B:=by
 refine h.keep (hg.block B h.lt fun hB=>?_)
 obtain ⟨c,hc⟩:=h.block
 rcases hu.2 with ⟨rfl,_⟩ | ⟨g,cap,cur,rfl,_,hh,_⟩
 ·simp [Value.ownBlock] at hB
 ·simp [Value.ownBlock] at hB
  subst hB
  rw [hh] at hc
  simp at hc
  exact hT hc.2.symm
theorem ext_grown {w0 w w' : World} {v : Value} {e : TypeId} {size n : Nat} {xs : List Value} (h : Ext w0 w) (ho : w.ownsRow w0.heap.size e size v n xs) (hg : w.grownBy w' v.ownBlock) : Ext w0 w':=by
 refine Below.grown h hg h.size fun k hk=>?_
 rcases ho.2 with ⟨rfl,_⟩ | ⟨g,cap,cur,rfl,hb,_⟩
 ·simp [Value.ownBlock] at hk
 ·simp [Value.ownBlock] at hk
  subst hk;exact hb
theorem ownsRow_ext {w w' : World} {base : Nat} {e : TypeId} {size n : Nat} {v : Value} {xs : List Value} (h : w.ownsRow base e size v n xs) (hx : Ext w w') : w'.ownsRow base e size v n xs:=by
 obtain ⟨h1,h2⟩:=h
 refine ⟨h1,h2.imp id fun ⟨g,cap,cur,hv,hb,hh,hr⟩=>⟨g,cap,cur,hv,hb,keep_ext hx hh,hr⟩⟩
set_option maxHeartbeats 1000000 in
theorem specFlashNew_c (w : World) : Calls Tryz.prog 46 #[] w (fun e w'=>∃ v B bs,e = .returned v ∧ Ext w w' ∧ OwnFlash w' v newFlash B bs ∧ (B :: bs).Nodup ∧ ∀ b ∈ B :: bs,w.heap.size ≤ b):=by
 have hmk : ∀ w : World,(Instr.makeSlice 99 (.int .i64 4) (.int .i64 4)).run Tryz.prog w = .ok (.slice (some ⟨w.heap.size,0,none⟩) 4 4) (w.alloc (.cells (madeCells #[.int .i64 0,.int .i64 0,.int .i64 0,.int .i64 0,.int .i64 0] 20) 102)):=
  make_n (P:=Tryz.prog) 99 102 #[.int .i64 0,.int .i64 0,.int .i64 0,.int .i64 0,.int .i64 0] 5 40 Tryz.underlying99 (by kernel_rfl) 4 (by omega) (by omega)
 go_enter Tryz.func46,Tryz.ntmps46
 go_wp2
 go_loopw [1,2] (fun v i wr=>∃ (k : Nat) (rows : List (Value × Int)) (bs : List Nat),k ≤ 4 ∧ i = .int .i64 k ∧ Ext w wr ∧ wr.ownsRow w.heap.size 104 2 v k (rows.flatMap rowC) ∧ rows.length = k ∧ bs.length = k ∧ bs.Nodup ∧
  ∀ (i : Nat) r b,rows[i]? = some r → bs[i]? = some b → r.2 = 0 ∧ OwnT 5 pageC 102 wr r.1 newBlock.pages b ∧ w.heap.size ≤ b) (fun _ i _=>4 - (intOf i).toNat)
 case atStart =>
  refine ⟨0,[],[],by omega,rfl,ext_alloc (ext_refl _) _,⟨rfl,.inr ⟨w.heap.size,0,_,rfl,Nat.le_refl _,alloc_get_new rfl,Nat.le_refl _,by simp,rfl,rfl⟩⟩,rfl,rfl,List.nodup_nil,fun i r b h=>by simp at h⟩
 case round =>
  obtain ⟨k,rows,bs,hk,rfl,hX,hown,hrl,hbl,hnd,hP⟩:=hrel
  have HP:=Lib.hid hP;clear hP
  by_cases hlt : k < 4
  ·have hz : ∀ a b : Obj,wr.heap.size < ((wr.alloc a).alloc b).heap.size:=fun a b=>by simp;omega
   go_wp2_with (refine wpList_app rfl _ _ 39 rfl w.heap.size 104 2 32 Tryz.underlying39 (by kernel_rfl) (by omega) _ k (rows.flatMap rowC) rfl (ownsRow_ext hown (ext_alloc (ext_alloc (ext_refl _) _) _)) ⟨wr.heap.size + 1,0,none⟩ 1 1 (rowC (.slice (some ⟨wr.heap.size,0,none⟩) 4 4,0)) rfl rfl ?hnews (by simp [Value.oneCell']) (by simp [maxLen];omega) (by omega) ?hbase fun v' w' hown' hg=>?_)
   case hnews =>
    intro j u hu
    rw [Addr.add_mid,cell_block (alloc_get_new (by simp)),Nat.zero_add]
    simpa using hu
   case hbase=>have:=hX.size;simp;omega
   have hE2 : ∀ a b : Obj,Ext wr ((wr.alloc a).alloc b):=fun a b=>ext_alloc (ext_alloc (ext_refl _) _) _
   have hPage:=OwnT.zeros (w:=(wr.alloc (.cells (madeCells #[.int .i64 0,.int .i64 0,.int .i64 0,.int .i64 0,.int .i64 0] 20) 102)).alloc (.cells (rowC (.slice (some ⟨wr.heap.size,0,none⟩) 4 4,0)).toArray 104)) (keep_ext (ext_alloc (ext_refl _) _) (alloc_get_new rfl))
   have hown0:=ownsRow_ext hown (hE2 (.cells (madeCells #[.int .i64 0,.int .i64 0,.int .i64 0,.int .i64 0,.int .i64 0] 20) 102) (.cells (rowC (.slice (some ⟨wr.heap.size,0,none⟩) 4 4,0)).toArray 104))
   refine ⟨⟨k + 1,rows ++ [(.slice (some ⟨wr.heap.size,0,none⟩) 4 4,0)],bs ++ [wr.heap.size],by omega,by go_num,ext_grown (ext_trans hX (hE2 _ _)) hown0 hg,by rw [List.flatMap_append];exact hown',by simp [hrl],by simp [hbl],?_,fun i r b hr hb=>?_⟩,by simp [intOf];omega⟩
   ·rw [List.nodup_append]
    refine ⟨hnd,by simp,fun a ha b hb=>?_⟩
    rw [List.mem_singleton] at hb
    subst hb
    obtain ⟨i,hi,rfl⟩:=List.mem_iff_getElem.1 ha
    exact Nat.ne_of_lt (HP.out i rows[i] bs[i] (List.getElem?_eq_getElem (by omega)) (List.getElem?_eq_getElem hi)).2.1.lt
   ·by_cases hik : i < k
    ·rw [List.getElem?_append_left (by omega)] at hr hb
     obtain ⟨h1,h2,h3⟩:=HP.out i r b hr hb
     exact ⟨h1,(h2.ext (hE2 _ _)).grown hown0 (by decide) hg,h3⟩
    ·have hi : i = k:=by
      have:=(List.getElem?_eq_some_iff.1 hb).1
      simp at this;omega
     subst hi
     rw [List.getElem?_append_right (by omega)] at hr hb
     simp [hrl,hbl] at hr hb
     subst hr hb
     exact ⟨rfl,hPage.grown hown0 (by decide) hg,hX.size⟩
  ·obtain rfl : k = 4:=by omega
   go_wp2
   obtain ⟨B,hB,hO⟩:=OwnT.of_owns (n:=2) (enc:=rowC) (fun _=>rfl) (by rw [hrl];exact hown) (by intro h;rw [h] at hrl;cases hrl)
   refine bodyPost_ret (v:=u1) (by simp [results,Tryz.results46,go_sem]) rfl ⟨u1,B,bs,rfl,hX,⟨rows,hO.any,hrl,hbl,fun i x r b hx hr hb=>?_⟩,List.nodup_cons.2 ⟨fun hm=>?_,hnd⟩,fun b hb=>?_⟩
   ·obtain ⟨h1,h2,h3⟩:=HP.out i r b hr hb
    have hxb : x = newBlock:=by
     have hi : i < 4:=(List.getElem?_eq_some_iff.1 hx).1
     match i,hi with
     | 0,_=>simpa [newFlash] using hx.symm
     | 1,_=>simpa [newFlash] using hx.symm
     | 2,_=>simpa [newFlash] using hx.symm
     | 3,_=>simpa [newFlash] using hx.symm
    subst hxb
    exact ⟨h1,h2.any⟩
   ·obtain ⟨i,hi,he⟩:=List.mem_iff_getElem.1 hm
    obtain ⟨h1,h2,h3⟩:=HP.out i rows[i] bs[i] (List.getElem?_eq_getElem (by omega)) (List.getElem?_eq_getElem hi)
    obtain ⟨c,hc⟩:=h2.block
    obtain ⟨c',hc'⟩:=hO.block
    rw [he,hc'] at hc
    simp at hc
   ·rcases List.mem_cons.1 hb with rfl | hb
    ·exact hB
    ·obtain ⟨i,hi,rfl⟩:=List.mem_iff_getElem.1 hb
     exact (HP.out i rows[i] bs[i] (List.getElem?_eq_getElem (by omega)) (List.getElem?_eq_getElem hi)).2.2
end Go.Bu
namespace Go.Bu
open Go Go.RowKit Go.Plan Go.Proofs
theorem hg_set {w : World} {a : Addr} {v : Value} {b : Nat} {o : Obj} (hb : b ≠ a.block) (h : w.heap[b]? = some o) : (w.setCell a v).heap[b]? = some o:=by rw [Below.heap_setCell _ _ _ _ hb];exact h
theorem hg_here {w : World} {b k : Nat} {v : Value} {c : Array Value} {T : TypeId} {fr : Nat × Nat} (h : w.heap[b]? = some (.cells c T fr)) : (w.setCell ⟨b,k,none⟩ v).heap[b]? = some (.cells (c.setIfInBounds k v) T fr):=setCell_block h
theorem hg_alloc {w : World} {x : Obj} {b : Nat} {o : Obj} (h : w.heap[b]? = some o) : (w.alloc x).heap[b]? = some o:=keep_ext (ext_alloc (ext_refl _) _) h
theorem hg_new {w : World} {x : Obj} {b : Nat} (h : b = w.heap.size) : (w.alloc x).heap[b]? = some x:=alloc_get_new h
theorem hgo {w : World} {b : Nat} {o o' : Obj} (h : w.heap[b]? = some o) (e : o = o') : w.heap[b]? = some o':=by rw [h,e]
theorem cellsK {w : World} {b : Nat} {c : Array Value} {T : TypeId} (h : w.heap[b]? = some (.cells c T (0,0))) : (∀ j,w.cell? ⟨b,j,none⟩ = c[j]?) ∧ (∀ j,w.frozen? ⟨b,j,none⟩ = false):=
 ⟨fun j=>cell_block h j,fun j=>frozen_block h j⟩
theorem foldl_drop {α σ : Type} (g : σ → α → σ) (s : σ) (xs : List α) (k : Nat) (h : k < xs.length) : (xs.drop k).foldl g s = (xs.drop (k + 1)).foldl g (g s xs[k]):=by
 rw [List.drop_eq_getElem_cons h,List.foldl_cons]
theorem foldl_end {α σ : Type} (g : σ → α → σ) (s : σ) (xs : List α) : (xs.drop xs.length).foldl g s = s:=by rw [List.drop_length];rfl
def SB (w : World) (B : Nat) (T : TypeId) (n : Nat) (w1 : World) : Prop:=Chg [B] w w1 ∧ ∃ c,w1.heap[B]? = some (.cells c T (0,0)) ∧ c.size = n
theorem SB.stab {w w1 w2 : World} {B T n : Nat} (h : SB w B T n w1) (hx : Ext w1 w2) : SB w B T n w2:=by
 obtain ⟨h1,c,h2,h3⟩:=h
 exact ⟨h1.trans (Chg.of_ext hx),c,keep_ext hx h2,h3⟩
section
variable {P : Program} {l : List Oper} {Q : Exit → Act → World → Prop} {ch L heads : List Nat} {lates : Lates} {tail : List Nat} {B0 : Nat} {S C : World → Prop} {iv : List (Nat × Nat)} {H : Nat} {a : Act}
 {fin : (World → Prop) → List (Nat × Nat) → Nat → Act → Prop}
theorem wp_region_st {w : World} (ch : List Nat) {B T : Nat} {c : Array Value} (hB : w.heap[B]? = some (.cells c T (0,0))) (heads : List Nat) (lates : Lates) (tail : List Nat) {id : Nat} {a : Act} (hm : P.follows .mixedOrders = true)
  (hok : okPlan l ch heads (lates.map (·.1)) tail = true)
  (hlate : ∀ f ∈ lates,∃ o,l[f.1]? = some o ∧ ∀ (a : Act) (w : World),(execOp a.eval o).run P w = .ok (.value (f.2.2 w.heap.size)) (w.alloc f.2.1))
  (h : Rob P l ch w.heap.size (Fin P l Q w.heap.size lates tail) heads (SB w B T c.size) (fun _=>True) [] w.heap.size a) : (Code.region id l.toArray true).wp P Q a w:=
 wp_region_plan ch heads lates tail hm hok hlate (SB w B T c.size) ⟨Chg.of_ext (ext_drew w),c,hB,rfl⟩ (fun _ _ h1 h2=>h1.stab h2) h
theorem Rob.yB {i : Nat} {o : Oper} {b : Bool} (ho : l[i]? = some o) (hg : Region.wanted o (yielded l.toArray a.tmps) = true)
  (hy : ∀ w1,S w1 → H ≤ w1.heap.size → (execOp a.eval o).run P w1 = .ok (.value (.bool b)) w1) (ht : b = true → Rob P l ch B0 fin L S C iv H (a.put o.dst (.bool true))) (hf : b = false → Rob P l ch B0 fin L S C iv H (a.put o.dst (.bool false))) : Rob P l ch B0 fin (i :: L) S C iv H a:=by
 cases b with
 | true=>exact Rob.yg ho hg hy (ht rfl)
 | false=>exact Rob.yg ho hg hy (hf rfl)
theorem Rob.st {w : World} {i B T n : Nat} {o : Oper} {ty : TypeId} {x y : Operand} {cells : Array Value} (ho : l[i]? = some o) (hc : ch.contains i = true) (hg : Region.wanted o (yielded l.toArray a.tmps) = true)
  (hop : o.op = .store ty x y) (hx : a.eval x = .pointer (some ⟨B,0,none⟩)) (hy : a.eval y = .agg cells) (hi : (P.info? ty).map (·.size) = some cells.size) (h1 : cells.all (·.oneCell') = true) (hn : cells.size = n) (hB : B < B0)
  (h : ∀ lo hi,H ≤ lo → lo ≤ hi → Rob P l ch B0 fin L (fun w1=>SB w B T n w1 ∧ w1.heap[B]? = some (.cells cells T (0,0))) (fun _=>True) (iv ++ [(lo,hi)]) hi (a.put o.dst undef)) :
  Rob P l ch B0 fin (i :: L) (SB w B T n) (fun _=>True) iv H a:=by
 refine ⟨o,ho,.inr ⟨hc,hg,fun _ _ v w1=>v = undef ∧ w1.heap[B]? = some (.cells cells T (0,0)),fun _ _ _ _=>True,⟨fun lo hi v w1 w2 h hx=>⟨h.1,keep_ext hx h.2⟩,fun _ _ _ _ _ _ _=>trivial⟩,fun w1 hs _ hw=>?_,fun lo hi v h1 h2 ⟨_,⟨hv,_⟩,_⟩=>?_⟩⟩
 ·obtain ⟨hC,c,hb,hcs⟩:=hs
  have hth : w1.there B 0 cells.size:=fun j hj=>by
   rw [Nat.zero_add,cell_block hb,frozen_block hb,Array.getElem?_eq_getElem (by omega)];exact ⟨rfl,rfl⟩
  unfold RunTo execOp
  simp only [hop,hx,hy,Sem.run_bind,Sem.run_pure,run_storeAt_mid w1 B 0 ty cells hth hi h1,Result.andThen_ok]
  obtain ⟨c',g1,g2,g3⟩:=setAll_block cells.toList w1 0 c hb (by simp;omega)
  have hcc : c' = cells:=by
   apply Array.ext_getElem?
   intro j
   rw [g3 j,if_pos (Nat.zero_le _)];simp
  have hs2 : (w1.setCells B 0 cells.toList).heap[B]? = some (.cells cells T (0,0)):=by subst hcc;exact g1
  have hbl:=setAll_below B 0 (Nat.zero_le _) cells.toList w1 0
  refine ⟨⟨by rw [setAll_size];exact Nat.le_refl _,fun b hb _ _=>setAll_other B (by omega) _ _ _⟩,⟨hC.trans ⟨hbl.os,hbl.tape,hbl.output,hbl.size,fun k hk hn=>setAll_other B (by simpa using hn) _ _ _⟩,cells,hs2,hn⟩,⟨?_,hs2⟩,trivial⟩
  first | rfl | trivial
 ·subst hv
  have:=h lo hi h1 h2
  rw [show (fun w1=>SB w B T n w1 ∧ undef = undef ∧ w1.heap[B]? = some (.cells cells T (0,0))) = (fun w1=>SB w B T n w1 ∧ w1.heap[B]? = some (.cells cells T (0,0))) from funext fun w=>by simp]
  exact this
end
end Go.Bu
namespace Go.Bu
open Go Go.RowKit Go.Plan Go.Proofs
theorem ok_inj {α : Type} {x : Result α} {a b : α} {w w' : World} (h1 : x = .ok a w) (h2 : x = .ok b w') : a = b ∧ w = w':=by
 rw [h1] at h2;injection h2 with h3 h4;exact ⟨h3,h4⟩
theorem app_keeps {P : Program} (w : World) (base : Nat) (t ty e : TypeId) (i : TypeInfo) (z : Value) (ht : P.underlying t = some (.slice e)) (hi : P.info? e = some i) (hz : i.zero = some z)
  (v : Value) (n : Nat) (xs : List Value) (hown : w.ownsRow base e i.size v n xs)
  (a : Addr) (m c : Nat) (news : List Value) (hl : news.length = m * i.size) (hnews : ∀ j u,news[j]? = some u → w.cell? (a.add j) = some u) (h1 : ∀ u ∈ news,u.oneCell' = true)
  (h63 : n + m ≤ maxLen) (hbytes : (n + m) * i.bytes ≤ 140737488355328) {v' : Value} {w' : World} (hr : (Builtin.append_ #[t,t] ty #[v,.slice (some a) m c]).run P w = .ok v' w') : w'.ownsRow base e i.size v n xs:=by
 have hsmall : n + m ≤ 9223372036854775807:=by simp only [maxLen] at h63;omega
 have hown0:=hown
 obtain ⟨hlen,hv⟩:=hown
 rcases hv with ⟨rfl,rfl⟩ | ⟨g,cap,cur,rfl,hbg,hg,hnc,hcm,hcs,htake⟩
 ·exact ⟨hlen,.inl ⟨rfl,rfl⟩⟩
 ·refine ⟨hlen,.inr ?_⟩
  by_cases hroom : n + m ≤ cap
  ·have hfit : n * i.size + news.length ≤ cur.size:=by rw [hl,hcs,← Nat.add_mul];exact Nat.mul_le_mul_right _ hroom
   obtain ⟨_,rfl⟩:=ok_inj hr (run_append_room (P:=P) w t ty e i ht hi g n cap cur hg a m c news hl hnews h1 hroom hfit)
   refine ⟨g,cap,_,rfl,hbg,setRow_heap w g cur _ e _ hg,hnc,hcm,?_,?_⟩
   ·simp only [List.size_toArray,List.length_append,List.length_take,List.length_drop,Array.length_toList]
    omega
   ·have hl2 : (cur.toList.take (n * i.size)).length = n * i.size:=by rw [htake,hlen]
    rw [List.append_assoc,List.take_append_of_le_length (by omega),List.take_of_length_le (by omega),htake]
  ·obtain ⟨_,rfl⟩:=ok_inj hr (run_append_grow (P:=P) w t ty e i z ht hi hz ⟨g,0,none⟩ n cap xs hlen (hown0.cells (g:=g) rfl) a m c news hl hnews (by omega) (by omega) (growslice_fits (by omega) hbytes))
   exact ⟨g,cap,cur,rfl,hbg,keep_ext (ext_alloc (ext_drew w) _) hg,hnc,hcm,hcs,htake⟩
structure SA (w0 W : World) (base : Nat) (e : TypeId) (size : Nat) (v : Value) (n : Nat) (xs : List Value) (w1 : World) : Prop where
 ext : Ext w0 w1
 siz : W.heap.size ≤ w1.heap.size
 same : ∀ b,b < W.heap.size → some b ≠ v.ownBlock → w1.heap[b]? = W.heap[b]?
 own : w1.ownsRow base e size v n xs
section
variable {w0 W w1 w2 : World} {base size n : Nat} {e : TypeId} {v : Value} {xs : List Value}
theorem SA.stab (h : SA w0 W base e size v n xs w1) (hx : Ext w1 w2) : SA w0 W base e size v n xs w2:=
 ⟨ext_trans h.ext hx,Nat.le_trans h.siz hx.size,fun b hb hn=>by rw [hx.block b (Nat.lt_of_lt_of_le hb h.siz)];exact h.same b hb hn,ownsRow_ext h.own hx⟩
theorem SA.start (hx : Ext w0 W) (ho : W.ownsRow base e size v n xs) : SA w0 W base e size v n xs W.drew:=
 ⟨ext_trans hx (ext_drew W),(ext_drew W).size,fun b hb _=>(ext_drew W).block b hb,ownsRow_ext ho (ext_drew W)⟩
theorem SA.keep (h : SA w0 W base e size v n xs w1) (ho : W.ownsRow base e size v n xs) {b : Nat} {c : Array Value} {T : TypeId} {fr : Nat × Nat} (hT : T ≠ e) (hb : W.heap[b]? = some (.cells c T fr)) : w1.heap[b]? = some (.cells c T fr):=by
 rw [h.same b (heap_lt hb) ?_];exact hb
 intro hB
 rcases ho.2 with ⟨rfl,_⟩ | ⟨g,cap,cur,rfl,_,hh,_⟩
 ·simp [Value.ownBlock] at hB
 ·simp [Value.ownBlock] at hB
  subst hB
  rw [hh] at hb
  simp at hb
  exact hT hb.2.1.symm
end
section
variable {P : Program} {l : List Oper} {Q : Exit → Act → World → Prop} {ch L heads : List Nat} {lates : Lates} {tail : List Nat} {B0 : Nat} {S C : World → Prop} {iv : List (Nat × Nat)} {H : Nat} {a : Act}
 {fin : (World → Prop) → List (Nat × Nat) → Nat → Act → Prop} {w0 W : World} {base size n : Nat} {e : TypeId} {v : Value} {xs : List Value}
theorem wp_region_sa (hx : Ext w0 W) (ho : W.ownsRow base e size v n xs) (ch heads : List Nat) (lates : Lates) (tail : List Nat) {id : Nat} {a : Act} (hm : P.follows .mixedOrders = true)
  (hok : okPlan l ch heads (lates.map (·.1)) tail = true)
  (hlate : ∀ f ∈ lates,∃ o,l[f.1]? = some o ∧ ∀ (a : Act) (w : World),(execOp a.eval o).run P w = .ok (.value (f.2.2 w.heap.size)) (w.alloc f.2.1))
  (h : Rob P l ch W.heap.size (Fin P l Q W.heap.size lates tail) heads (SA w0 W base e size v n xs) (fun _=>True) [] W.heap.size a) : (Code.region id l.toArray true).wp P Q a W:=
 wp_region_plan ch heads lates tail hm hok hlate _ (SA.start hx ho) (fun _ _ h1 h2=>h1.stab h2) h
theorem Rob.al {i : Nat} {o : Oper} (ob : Obj) (f : Nat → Value) (ho : l[i]? = some o) (hc : ch.contains i = true) (hg : Region.wanted o (yielded l.toArray a.tmps) = true)
  (hS : ∀ w w',S w → Ext w w' → S w') (hrun : ∀ w1,(execOp a.eval o).run P w1 = .ok (.value (f w1.heap.size)) (w1.alloc ob))
  (h : ∀ lo hi,H ≤ lo → lo < hi → Rob P l ch B0 fin L (fun w=>S w ∧ w.heap[lo]? = some ob) C (iv ++ [(lo,hi)]) hi (a.put o.dst (f lo))) (hCs : ∀ w w',C w → Ext w w' → C w':=by exact fun _ _ h _=>h) : Rob P l ch B0 fin (i :: L) S C iv H a:=by
 refine ⟨o,ho,.inr ⟨hc,hg,fun lo hi v w1=>v = f lo ∧ lo < hi ∧ w1.heap[lo]? = some ob,fun _ _ _=>C,⟨fun lo hi v w1 w2 h hx=>⟨h.1,h.2.1,keep_ext hx h.2.2⟩,fun _ _ _=>hCs⟩,fun w1 hs hcw hw=>?_,fun lo hi v h1 h2 ⟨_,⟨hv,hlt,_⟩,_⟩=>?_⟩⟩
 ·unfold RunTo
  rw [hrun w1]
  exact ⟨.of_ext (ext_alloc (ext_refl _) _),hS _ _ hs (ext_alloc (ext_refl _) _),⟨rfl,by simp,hg_new rfl⟩,hCs _ _ hcw (ext_alloc (ext_refl _) _)⟩
 ·subst hv
  have:=h lo hi h1 hlt
  rw [show (fun w1=>S w1 ∧ f lo = f lo ∧ lo < hi ∧ w1.heap[lo]? = some ob) = (fun w1=>S w1 ∧ w1.heap[lo]? = some ob) from funext fun w=>by simp [hlt]]
  exact this
theorem Rob.app {i : Nat} {o : Oper} {s x : Operand} {t : TypeId} {ob : Obj} {lo : Nat} (bytes : Nat) (cs : List Value) (m : Nat) (ho : l[i]? = some o) (hc : ch.contains i = true) (hg : Region.wanted o (yielded l.toArray a.tmps) = true)
  (hop : o.op = .call { callee:=.builtin .append,args:=#[s,x],argTypes:=#[t,t] }) (hs : a.eval s = v) (hx : a.eval x = .slice (some ⟨lo,0,none⟩) m m)
  (ht : P.underlying t = some (.slice e)) (hi : (P.info? e).bind (fun i=>i.zero.map fun z=>(z.cells.size,i.size,i.bytes)) = some (size,size,bytes)) (hsz : 0 < size)
  (hob : ob = .cells cs.toArray e (0,0)) (hcs : cs.length = m * size) (h1 : ∀ u ∈ cs,u.oneCell' = true) (h63 : n + m ≤ maxLen) (hbytes : (n + m) * bytes ≤ 140737488355328) (hbase : base ≤ B0) (hBH : W.heap.size ≤ H) (hW : w0.heap.size = base) (hown : W.ownsRow base e size v n xs) (hlo : W.heap.size ≤ lo) (hB : B0 = W.heap.size)
  (h : ∀ lo' hi' v',H ≤ lo' → Rob P l ch B0 fin L (fun w=>(SA w0 W base e size v n xs w ∧ w.heap[lo]? = some ob) ∧ w.ownsRow base e size v' (n + m) (xs ++ cs)) (fun _=>True) (iv ++ [(lo',hi')]) hi' (a.put o.dst v')) :
  Rob P l ch B0 fin (i :: L) (fun w=>SA w0 W base e size v n xs w ∧ w.heap[lo]? = some ob) (fun _=>True) iv H a:=by
 have hvl : ∀ k,v.ownBlock = some k → k < W.heap.size:=fun k hk=>(hown.lt k hk).2
 refine ⟨o,ho,.inr ⟨hc,hg,fun lo' hi' v' w1=>w1.ownsRow base e size v' (n + m) (xs ++ cs),fun _ _ _ _=>True,⟨fun lo' hi' v' w1 w2 h hx=>ownsRow_ext h hx,fun _ _ _ _ _ _ _=>trivial⟩,fun w1 hsw _ hw=>?_,fun lo' hi' v' hh1 hh2 ⟨_,hv,_⟩=>h lo' hi' v' hh1⟩⟩
 obtain ⟨hSA,hlo1⟩:=hsw
 obtain ⟨inf,hi1,hi2⟩:=Option.bind_eq_some_iff.1 hi
 obtain ⟨z,hz,he⟩:=Option.map_eq_some_iff.1 hi2
 obtain ⟨hzs,he⟩:=Prod.mk.inj he
 obtain ⟨hsize,hby⟩:=Prod.mk.inj he
 subst hob
 have hnews : ∀ j u,cs[j]? = some u → w1.cell? ((⟨lo,0,none⟩ : Addr).add j) = some u:=fun j u hu=>by
  rw [Addr.add_mid,cell_block hlo1,Nat.zero_add];simpa using hu
 obtain ⟨v',w',hr,hown',hgr,_⟩:=run_append_own (P:=P) w1 base t o.type e inf z size bytes ht hi1 hz hsize hby hzs hsz v n xs hSA.own ⟨lo,0,none⟩ m m cs hcs hnews h1 h63 hbytes (by have:=hSA.siz;omega)
 subst hsize hby
 have hkeep:=app_keeps (P:=P) w1 base t o.type e inf z ht hi1 hz v n xs hSA.own ⟨lo,0,none⟩ m m cs hcs hnews h1 h63 hbytes hr
 unfold RunTo execOp
 simp only [hop,resolve,invoke,builtin,Sem.run_bind,Sem.run_pure,Result.andThen_ok,List.map_toArray,List.map_cons,List.map_nil,hs,hx,hr]
 have hlb : ∀ b,b < w1.heap.size → some b ≠ v.ownBlock → w'.heap[b]? = w1.heap[b]?:=fun b hb hn=>hgr.block b hb hn
 refine ⟨⟨hgr.size,fun b hb hbl _=>hlb b hbl fun e=>?_⟩,⟨⟨?_,Nat.le_trans hSA.siz hgr.size,fun b hb hn=>?_,hkeep⟩,?_⟩,hown',trivial⟩
 ·have:=hvl b e.symm;omega
 ·have ho2:=hSA.own
  rw [← hW] at ho2
  exact ext_grown hSA.ext ho2 hgr
 ·rw [hlb b (Nat.lt_of_lt_of_le hb hSA.siz) hn];exact hSA.same b hb hn
 ·rw [hlb lo (heap_lt hlo1) fun e=>?_]
  ·exact hlo1
  ·have:=hvl lo e.symm;omega
end
end Go.Bu
namespace Go.Bu
open Go Go.RowKit Go.Plan Go.Proofs
def recOkB (r : Rec) : Bool:=inB r.kind 1 2 && inB r.seq 1 600 && inB r.addr 1 6 && inB r.val 0 9
def recZ (r : Rec) : Bool:=r.kind == 0 && r.seq == 0 && r.addr == 0 && r.val == 0
def pageOkB (p : Page) : Bool:=if p.state = 1 then recOkB p.r else (p.state == 0 || p.state == 2) && recZ p.r
theorem specRecOk_c (r : Rec) (w : World) : Calls Tryz.prog 111 #[recA r] w (Ret w (.bool (recOkB r))):=by
 go_enter Tryz.func111,Tryz.ntmps111
 go_wp2_with (go_at_call 73;refine (l6In_c _ _ _ _).mono ?_;rintro e w' ⟨rfl,rfl⟩)
 all_goals
  go_ret
  refine ⟨?_,ext_alloc (ext_refl _) _⟩
  simp_all [recOkB]
theorem specPageOk_c (p : Page) (w : World) : Calls Tryz.prog 112 #[pageA p] w (Ret w (.bool (pageOkB p))):=by
 go_enter Tryz.func112,Tryz.ntmps112
 go_wp2_with (go_at_call 111;refine (specRecOk_c p.r _).mono ?_;rintro e w' ⟨rfl,hx⟩;have hX:=ext_trans (ext_alloc (ext_refl _) _) hx)
 all_goals
  go_ret
  refine ⟨?_,?_⟩
  ·simp_all [pageOkB,recZ]
  ·first | with_reducible exact hX | with_reducible exact ext_alloc (ext_refl _) _
theorem addrOk_c (n : Int) (w : World) : Calls Tryz.prog 145 #[.int .i64 n] w (RetSame w (.bool (inB n 1 6))):=by
 go_enter Tryz.func145,Tryz.ntmps145
 go_wp2
 all_goals
  go_ret
  refine ⟨?_,rfl⟩
  simp_all [inB]
  try omega
theorem valOk_c (n : Int) (w : World) : Calls Tryz.prog 63 #[.int .i64 n] w (RetSame w (.bool (inB n 0 9))):=by
 go_enter Tryz.func63,Tryz.ntmps63
 go_wp2
 all_goals
  go_ret
  refine ⟨?_,rfl⟩
  simp_all [inB]
  try omega
def entryV (r : Rec) : Value:=if r.kind = 1 then .iface 213 (recA r) else if r.kind = 2 then .iface 214 (recA r) else .nilIface
theorem entryOf_c (r : Rec) (w : World) : Calls Tryz.prog 144 #[recA r] w (Ret w (entryV r)):=by
 go_enter Tryz.func144,Tryz.ntmps144
 go_wp2
 all_goals
  go_ret
  refine ⟨?_,ext_alloc (ext_refl _) _⟩
  simp_all [entryV]
def kindB (r : Rec) : Bool:=inB r.kind 1 2
theorem entry_not {r : Rec} (w : World) : (binOp .neq 203 (entryV r) .nilIface).run Tryz.prog w = .ok (.bool (kindB r)) w:=by
 unfold entryV kindB
 by_cases h1 : r.kind = 1
 ·rw [if_pos h1,h1];simp [go_sem];decide
 ·rw [if_neg h1]
  by_cases h2 : r.kind = 2
  ·rw [if_pos h2,h2];simp [go_sem];decide
  ·rw [if_neg h2]
   have : inB r.kind 1 2 = false:=inB_no.2 (by omega)
   rw [this];simp [go_sem]
theorem entry_guard {r : Rec} (x : Operand) (v : Value) (w : World) : (eqGuard .neq 203 x (.const v) (entryV r) .nilIface).run Tryz.prog w = .ok () w:=by
 unfold entryV
 by_cases h1 : r.kind = 1
 ·rw [if_pos h1];rfl
 ·rw [if_neg h1]
  by_cases h2 : r.kind = 2
  ·rw [if_pos h2];rfl
  ·rw [if_neg h2];cases x <;> rfl
set_option maxHeartbeats 1000000 in
theorem implRecOk_c (r : Rec) (w : World) : Calls Tryz.prog 127 #[recA r] w (Ret w (.bool (recOkB r))):=by
 have hne:=fun w : World=>entry_not (r:=r) w
 have hgd:=fun (x : Operand) (v : Value) (w : World)=>entry_guard (r:=r) x v w
 go_enter Tryz.func127,Tryz.ntmps127
 go_wp2_with fail
 refine (entryOf_c r _).mono ?_;rintro e1 w1 ⟨rfl,hx⟩
 obtain ⟨hc,hf,hz,hX⟩:=after1 hx
 have hq : recOkB r = (kindB r && inB r.seq 1 600 && inB r.addr 1 6 && inB r.val 0 9):=rfl
 generalize entryV r = ev at *
 generalize kindB r = kb at *
 go_wp2_with (first | (go_at_call 145;refine (addrOk_c _ _).mono ?_;rintro e w' ⟨rfl,rfl⟩) | (go_at_call 63;refine (valOk_c _ _).mono ?_;rintro e w' ⟨rfl,rfl⟩))
 all_goals
  go_ret
  refine ⟨?_,hX⟩
  simp_all [inB]
  try omega
theorem implPageOk_c (p : Page) (w : World) : Calls Tryz.prog 105 #[pageA p] w (Ret w (.bool (pageOkB p))):=by
 go_enter Tryz.func105,Tryz.ntmps105
 go_wp2_with (go_at_call 127;refine (implRecOk_c p.r _).mono ?_;rintro e w' ⟨rfl,hx⟩;have hX:=ext_trans (ext_alloc (ext_refl _) _) hx)
 all_goals
  go_ret
  refine ⟨?_,?_⟩
  ·simp_all [pageOkB,recZ]
  ·first | with_reducible exact hX | with_reducible exact ext_alloc (ext_refl _) _
end Go.Bu
namespace Go.Bu
open Go Go.RowKit Go.Plan Go.Proofs
def lastStep (addr : Int) (r : Rec) (p : Page) : Rec:=if p.state = 1 ∧ p.r.addr = addr ∧ r.seq < p.r.seq then p.r else r
def lastP (addr : Int) (r : Rec) (ps : List Page) : Rec:=ps.foldl (lastStep addr) r
def rec0 : Rec:=⟨0,0,0,0⟩
def last (f : List Block) (addr : Int) : Rec:=f.foldl (fun r b=>lastP addr r b.pages) rec0
set_option maxHeartbeats 1000000 in
theorem l3Last_c (v : Value) (f : List Block) (addr : Int) (w : World) (h : Flash (Old w) w v f) (hn : f.length ≤ 1048576) (hp : ∀ b ∈ f,b.pages.length ≤ 1048576) :
  Calls Tryz.prog 72 #[v,.int .i64 addr] w (Ret w (.tuple #[recA (last f addr),.bool (decide (0 < (last f addr).seq))])):=by
 obtain ⟨a,cap,rfl⟩:=h.form
 obtain ⟨A,hA⟩ : ∃ A,last f addr = A:=⟨_,rfl⟩
 rw [hA]
 unfold last at hA
 have HP:=Lib.hid hp;clear hp
 have HA:=Lib.hid hA;clear hA
 go_enter Tryz.func72,Tryz.ntmps72
 go_wp2
 go_loopw [7] (fun y wr=>∃ (i : Nat) (r : Rec),i ≤ f.length ∧ y = .int .i64 i ∧ Ext w wr ∧ Hid ((f.drop i).foldl (fun r b=>lastP addr r b.pages) r = A) ∧
  wr.heap[w.heap.size]? = some (.cells #[.int .i64 0,.int .i64 0,.int .i64 0,.int .i64 0] 78 (0,0)) ∧ wr.heap[w.heap.size + 1]? = some (.cells #[.int .i64 r.kind,.int .i64 r.seq,.int .i64 r.addr,.int .i64 r.val] 78 (0,0))) (fun y _=>f.length - (intOf y).toNat)
 case atStart =>
  refine ⟨0,rec0,by omega,rfl,by go_grown,Lib.hid (by simpa using HA.out),?_,?_⟩
  ·refine hg_alloc (hg_new rfl)
  ·refine hg_new (by simp)
 case round =>
  obtain ⟨i,r,hi,rfl,hX,HR,g0,g1⟩:=hrel
  have L1:=heap_lt g1
  by_cases hlt : i < f.length
  ·obtain ⟨b,o,pv,rfl,hb,hpp,h0,h1⟩:=h.at2 hlt
   obtain ⟨pa,pcap,rfl⟩:=hpp.form
   obtain ⟨hc,hf⟩:=bcell hX
   have hb' : b < w.heap.size:=hb
   have hpl:=HP.out f[i] (List.getElem_mem _)
   rw [foldl_drop _ _ _ _ hlt] at HR
   go_wp2
   go_loopw [8] (fun y wr=>∃ (k : Nat) (r : Rec),k ≤ f[i].pages.length ∧ y = .int .i64 k ∧ Ext w wr ∧ Hid ((f.drop (i + 1)).foldl (fun r b=>lastP addr r b.pages) ((f[i].pages.drop k).foldl (lastStep addr) r) = A) ∧
    wr.heap[w.heap.size]? = some (.cells #[.int .i64 0,.int .i64 0,.int .i64 0,.int .i64 0] 78 (0,0)) ∧ wr.heap[w.heap.size + 1]? = some (.cells #[.int .i64 r.kind,.int .i64 r.seq,.int .i64 r.addr,.int .i64 r.val] 78 (0,0))) (fun y _=>f[i].pages.length - (intOf y).toNat)
   case atStart=>exact ⟨0,r,by omega,rfl,hX,HR,g0,g1⟩
   case round =>
    clear hc hf g0 g1 hX HR L1
    obtain ⟨k,r2,hk,rfl,hX,HR,g0,g1⟩:=hrel
    have L1:=heap_lt g1
    obtain ⟨hc,hf⟩:=bcell hX
    obtain ⟨c1,f1⟩:=cellsK g1
    by_cases hlk : k < f[i].pages.length
    ·obtain ⟨b2,o2,rfl,hb2,e0,e1,e2,e3,e4⟩:=hpp.at5 hlk
     have hb2' : b2 < w.heap.size:=hb2
     rw [foldl_drop _ _ _ _ hlk] at HR
     go_wp2
     all_goals
      refine ⟨⟨k + 1,lastStep addr r2 f[i].pages[k],by omega,by go_num,by go_grown,HR,(by (repeat (first | with_reducible apply hg_here | (with_reducible apply hg_set;focus (dsimp only;omega)) | with_reducible apply hg_alloc));with_reducible exact g0),hgo (by (repeat (first | with_reducible apply hg_here | (with_reducible apply hg_set;focus (dsimp only;omega)) | with_reducible apply hg_alloc));with_reducible exact g1) ?_⟩,by simp [intOf];omega⟩
      try simp only [slA,slB,slC]
      first | rw [lastStep,if_pos ⟨‹_›,‹_›,‹_›⟩] | rw [lastStep,if_neg (by omega)]
      try simp [*]
    ·obtain rfl : k = f[i].pages.length:=by omega
     rw [foldl_end] at HR
     go_wp2
     exact ⟨⟨i + 1,r2,by omega,by go_num,hX,HR,g0,g1⟩,by simp [intOf];omega⟩
  ·obtain rfl : i = f.length:=by omega
   rw [foldl_end] at HR
   have hr:=HR.out
   subst hr
   obtain ⟨c0,f0⟩:=cellsK g0
   obtain ⟨c1,f1⟩:=cellsK g1
   go_wp2_with fail
   refine wp_region_st [4] g0 [0,1,2,3,4,5] [] [] (by kernel_rfl) (by kernel_rfl) ?late ?_
   case late=>exact fun f hf=>absurd hf List.not_mem_nil
   refine Rob.y (v:=?_) rfl rfl (fun w1 hx hH=>?_) ?_;rotate_left
   ·(obtain ⟨c1,f1⟩:=cellsK (hx.1.keep g1 (by simp)));go_simp;first | done | rfl
   simp only [Act.put,slA,slB,slC]
   refine Rob.y (v:=?_) rfl rfl (fun w1 hx hH=>?_) ?_;rotate_left
   ·go_simp;first | done | rfl | exact (Bool.not_not _).symm
   simp only [Act.put,slA,slB,slC]
   refine Rob.y (v:=?_) rfl rfl (fun w1 hx hH=>?_) ?_;rotate_left
   ·(obtain ⟨c1,f1⟩:=cellsK (hx.1.keep g1 (by simp)));go_simp;first | done | rfl
   simp only [Act.put,slA,slB,slC]
   refine Rob.y (v:=?_) rfl rfl (fun w1 hx hH=>?_) ?_;rotate_left
   ·go_simp;first | done | rfl | exact (Bool.not_not _).symm
   simp only [Act.put,slA,slB,slC]
   refine Rob.st rfl rfl rfl rfl rfl rfl (by kernel_rfl) (by kernel_rfl) rfl (by omega) (fun lo4 hi4 hlo4 hhi4=>?_)
   simp only [Act.put,slA,slB,slC]
   refine Rob.y (v:=?_) rfl rfl (fun w1 hx hH=>?_) ?_;rotate_left
   ·go_simp;first | done | rfl | exact (Bool.not_not _).symm
   simp only [Act.put,slA,slB,slC]
   refine fin_nil (fun w2 hx2 _=>?_)
   obtain ⟨⟨hC,-⟩,G⟩:=hx2
   obtain ⟨d0,e0⟩:=cellsK G
   have X2 : Ext w w2:=hC.ext hX (by simp)
   clear c0 c1 f0 f1
   go_wp2_with fail
   refine bodyPost_ret (v:=.tuple #[recA r,.bool (decide (0 < r.seq))]) (by simp [results,Tryz.results72,go_sem,d0,e0]) rfl ⟨rfl,X2⟩
end Go.Bu
namespace Go.Bu
open Go Go.RowKit Go.Plan Go.Proofs
theorem cells5 {w : World} {B T : Nat} {c0 c1 c2 c3 c4 : Value} (h : w.heap[B]? = some (.cells #[c0,c1,c2,c3,c4] T (0,0))) : w.cell? ⟨B,0,none⟩ = some c0 ∧ w.cell? ⟨B,1,none⟩ = some c1 ∧ w.cell? ⟨B,2,none⟩ = some c2 ∧ w.cell? ⟨B,3,none⟩ = some c3 ∧ w.cell? ⟨B,4,none⟩ = some c4 ∧ ∀ j,w.frozen? ⟨B,j,none⟩ = false:=
 ⟨by rw [cell_block h];rfl,by rw [cell_block h];rfl,by rw [cell_block h];rfl,by rw [cell_block h];rfl,by rw [cell_block h];rfl,frozen_block h⟩
theorem OwnAt.there {α : Type} {n : Nat} {enc : α → List Value} {T : TypeId} {w : World} {B o : Nat} {xs : List α} (hn : ∀ x,(enc x).length = n) (h : OwnAt n enc T w B o xs) {k : Nat} (hk : k < xs.length) : w.there B (o + k * n) n:=by
 intro j hj
 have hx:=h.cell (List.getElem?_eq_getElem hk) (j:=j) (u:=(enc xs[k])[j]'(by rw [hn];exact hj)) (List.getElem?_eq_getElem _)
 rw [hx,h.frozen];exact ⟨rfl,rfl⟩
set_option maxHeartbeats 1000000 in
theorem fill_c (B T : Nat) (ps : List Page) (p : Page) (w : World) (h : OwnAt 5 pageC T w B 0 ps) (hl : ps.length = 4) :
  Calls Tryz.prog 77 #[.pointer (some ⟨B,0,none⟩),pageA p] w (fun e w'=>e = .returned (.tuple #[]) ∧ Chg [B] w w' ∧ OwnAt 5 pageC T w' B 0 [p,p,p,p]):=by
 have hBw:=h.lt
 go_enter Tryz.func77,Tryz.ntmps77
 go_wp2
 go_loopw [5] (fun i wr=>∃ (k : Nat) (qs : List Page),k ≤ 4 ∧ i = .int .i64 k ∧ Chg [B] w wr ∧ OwnAt 5 pageC T wr B 0 qs ∧ qs.length = 4 ∧ (∃ T',wr.heap[w.heap.size]? = some (.cells (pageC p).toArray T' (0,0))) ∧ ∀ i : Nat,i < k → qs[i]? = some p) (fun i _=>4 - (intOf i).toNat)
 case atStart=>exact ⟨0,ps,by omega,rfl,(Chg.refl _ _).alloc _,h.ext (ext_alloc (ext_refl _) _),hl,⟨_,alloc_get_new rfl⟩,fun i hi=>absurd hi (Nat.not_lt_zero _)⟩
 case round =>
  obtain ⟨k,qs,hk,rfl,hC,hO,hl,⟨T',hbox⟩,hq⟩:=hrel
  have HQ:=Lib.hid hq;clear hq
  by_cases hlt : k < 4
  ·go_wp2_with fail
   refine wp_region_ext [] [0,1,2,3,4,5] [] [6] (by kernel_rfl) (by kernel_rfl) ?late ?_
   case late=>exact fun f hf=>absurd hf List.not_mem_nil
   iterate 2
    refine Rob.y (v:=?_) rfl rfl (fun w1 hx hH=>?_) ?_;rotate_left
    ·go_simp;first | done | rfl | exact (Bool.not_not _).symm
    simp only [Act.put,slA,slB,slC]
   iterate 2
    refine Rob.y (v:=?_) rfl rfl (fun w1 hx hH=>?_) ?_;rotate_left
    ·(obtain ⟨p0,p1,p2,p3,p4,pf⟩:=cells5 (keep_ext hx hbox));go_simp;first | done | rfl
    simp only [Act.put,slA,slB,slC]
   refine Rob.y (v:=?_) rfl rfl (fun w1 hx hH=>?_) ?_;rotate_left
   ·go_simp;first | done | rfl | exact (Bool.not_not _).symm
   simp only [Act.put,slA,slB,slC]
   refine Rob.y (v:=?_) rfl rfl (fun w1 hx hH=>?_) ?_;rotate_left
   ·(obtain ⟨p0,p1,p2,p3,p4,pf⟩:=cells5 (keep_ext hx hbox));go_simp;first | done | rfl
   simp only [Act.put,slA,slB,slC]
   refine fin_tail (fun w1 hx1 _=>?_)
   simp only [dstOf,List.getElem?_cons_succ,List.getElem?_cons_zero,Option.bind_some,Act.put,slA,slB,slC,List.filterMap_cons,List.filterMap_nil]
   have hO1:=hO.ext hx1
   have hth:=OwnAt.there (n:=5) (enc:=pageC) (fun _=>rfl) hO1 (k:=k) (by omega)
   have hS:=OwnAt.set (n:=5) (enc:=pageC) (fun _=>rfl) (by omega) hO1 (k:=k) (by omega) p
   rw [Nat.zero_add] at hth hS
   have hC1 : Chg [B] w (setAll w1 B (k * 5) (pageC p)):=(((((hC.trans (Chg.of_ext hx1)).set (.inl (by simp)) _).set (.inl (by simp)) _).set (.inl (by simp)) _).set (.inl (by simp)) _).set (.inl (by simp)) _
   have hB1 : (setAll w1 B (k * 5) (pageC p)).heap[w.heap.size]? = some (.cells (pageC p).toArray T' (0,0)):=by rw [setAll_other B (by omega)];exact keep_ext hx1 hbox
   refine wpList_store_mid rfl 102 _ _ rfl B (k * 5) (pageC p).toArray rfl rfl hth (by kernel_rfl) (by simp [Value.oneCell']) ?_
   refine wpList_nil ?_
   have HS:=Lib.hid hS;have HC:=Lib.hid hC1;have HB:=Lib.hid hB1
   clear hS hC1 hB1 hO1 hth
   change Exit.inBlock _ _ _ _ (setAll w1 B (k * 5) (pageC p))
   generalize setAll w1 B (k * 5) (pageC p) = w2 at *
   go_wp2
   refine ⟨⟨k + 1,qs.set k p,by omega,by go_num,HC.out,HS.out,by rw [List.length_set];exact hl,⟨T',HB.out⟩,fun i hi=>?_⟩,by simp [intOf];omega⟩
   by_cases hik : i = k
   ·subst hik;rw [List.getElem?_set_self (by omega)]
   ·rw [List.getElem?_set_ne (Ne.symm hik)];exact HQ.out i (by omega)
  ·obtain rfl : k = 4:=by omega
   go_wp2
   have hqs : qs = [p,p,p,p]:=by
    match qs,hl with
    | [a,b,c,d],_ =>
     have h0:=HQ.out 0 (by omega);have h1:=HQ.out 1 (by omega);have h2:=HQ.out 2 (by omega);have h3:=HQ.out 3 (by omega)
     simp at h0 h1 h2 h3
     subst h0 h1 h2 h3
     rfl
   go_end0
   exact ⟨rfl,hC,by rw [← hqs];exact hO⟩
set_option maxHeartbeats 1000000 in
theorem pagesOf_c (p : Page) (w : World) : Calls Tryz.prog 54 #[pageA p] w (fun e w'=>∃ v B,e = .returned v ∧ Ext w w' ∧ w.heap.size ≤ B ∧ OwnPages w' v [p,p,p,p] B):=by
 have hZ : madeCells #[.int .i64 0,.int .i64 0,.int .i64 0,.int .i64 0,.int .i64 0] 20 = #[.int .i64 0,.int .i64 0,.int .i64 0,.int .i64 0,.int .i64 0,.int .i64 0,.int .i64 0,.int .i64 0,.int .i64 0,.int .i64 0,.int .i64 0,.int .i64 0,.int .i64 0,.int .i64 0,.int .i64 0,.int .i64 0,.int .i64 0,.int .i64 0,.int .i64 0,.int .i64 0]:=by kernel_rfl
 have HZ:=Lib.hid hZ;clear hZ
 go_enter Tryz.func54,Tryz.ntmps54
 go_wp2_with fail
 refine (fill_c (w.heap.size + 1) _ newBlock.pages p _ (by
  obtain ⟨o,cap,hv,hA⟩:=OwnT.zeros (w:=(w.alloc (.cells (pageC p).toArray 102)).alloc (.cells (madeCells #[.int .i64 0,.int .i64 0,.int .i64 0,.int .i64 0,.int .i64 0] 20) 127)) (B:=w.heap.size + 1) (T:=127) (alloc_get_new (by simp))
  injection hv with h1 h2 h3
  injection h1 with h1
  injection h1 with h1 h4 h5
  subst h4
  rw [HZ.out] at hA
  exact hA) rfl).mono ?_;rintro e1 w1 ⟨rfl,hc1,hO⟩
 have X1 : Ext w w1:=hc1.ext (ext_alloc (ext_alloc (ext_refl _) _) _) (by simp)
 have HO:=Lib.hid hO
 clear hc1 hO
 go_wp2_with fail
 refine bodyPost_ret (v:=.slice (some ⟨w.heap.size + 1,0,none⟩) 4 4) (by simp [results,Tryz.results54,go_sem]) rfl ⟨_,w.heap.size + 1,rfl,X1,by omega,_,0,0,rfl,HO.out⟩
set_option maxHeartbeats 1000000 in
theorem implFlashNew_c (w : World) : Calls Tryz.prog 39 #[] w (fun e w'=>∃ v B bs,e = .returned v ∧ Ext w w' ∧ OwnFlash w' v newFlash B bs ∧ (B :: bs).Nodup ∧ ∀ b ∈ B :: bs,w.heap.size ≤ b):=by
 have hmk : ∀ w : World,(Instr.makeSlice 39 (.int .i64 4) (.int .i64 4)).run Tryz.prog w = .ok (.slice (some ⟨w.heap.size,0,none⟩) 4 4) (w.alloc (.cells #[.slice none 0 0,.int .i64 0,.slice none 0 0,.int .i64 0,.slice none 0 0,.int .i64 0,.slice none 0 0,.int .i64 0] 104)):=fun w=>by kernel_rfl
 have h0 : ∀ w : World,OwnAt 2 rowC 104 (w.alloc (.cells #[.slice none 0 0,.int .i64 0,.slice none 0 0,.int .i64 0,.slice none 0 0,.int .i64 0,.slice none 0 0,.int .i64 0] 104)) w.heap.size 0 [(.slice none 0 0,0),(.slice none 0 0,0),(.slice none 0 0,0),(.slice none 0 0,0)]:=by
  intro w
  refine ⟨_,alloc_get_new rfl,fun i x hx j u hu=>?_⟩
  have hi : i < 4:=(List.getElem?_eq_some_iff.1 hx).1
  have hj : j < 2:=by
   have:=(List.getElem?_eq_some_iff.1 hu).1
   simpa using this
  rcases (show i = 0 ∨ i = 1 ∨ i = 2 ∨ i = 3 by omega) with rfl | rfl | rfl | rfl <;> (simp at hx;subst hx;rcases (show j = 0 ∨ j = 1 by omega) with rfl | rfl <;> (simp at hu;subst hu;rfl))
 have H0:=Lib.hid h0;clear h0
 go_enter Tryz.func39,Tryz.ntmps39
 go_wp2
 go_loopw [6] (fun i wr=>∃ (k : Nat) (rows : List (Value × Int)) (bs : List Nat),k ≤ 4 ∧ i = .int .i64 k ∧ Ext w wr ∧ OwnAt 2 rowC 104 wr w.heap.size 0 rows ∧ rows.length = 4 ∧ bs.length = k ∧ bs.Nodup ∧ w.heap.size ∉ bs ∧ (∀ r ∈ rows,r.2 = 0) ∧
  ∀ (i : Nat) r b,rows[i]? = some r → bs[i]? = some b → r.2 = 0 ∧ OwnPages wr r.1 newBlock.pages b ∧ w.heap.size ≤ b) (fun i _=>4 - (intOf i).toNat)
 case atStart=>exact ⟨0,_,[],by omega,rfl,ext_alloc (ext_refl _) _,H0.out w,rfl,rfl,List.nodup_nil,by simp,by simp,fun i r b h h2=>by simp at h2⟩
 case round =>
  obtain ⟨k,rows,bs,hk,rfl,hX,hA,hrl,hbl,hnd,hnb,hz,hP⟩:=hrel
  have HZ:=Lib.hid hz;clear hz
  have HP:=Lib.hid hP;clear hP
  by_cases hlt : k < 4
  ·go_wp2_with fail
   refine (pagesOf_c zPage _).mono ?_;rintro e1 w1 ⟨pv,b1,rfl,hx1,hb1,hO1⟩
   obtain ⟨o1,cap1,hpv⟩ : ∃ o cap,pv = .slice (some ⟨b1,o,none⟩) 4 cap:=by obtain ⟨T1,o1,cap1,hv,_⟩:=hO1;exact ⟨o1,_,hv⟩
   subst hpv
   have hA1:=hA.ext hx1
   obtain ⟨c0,c1⟩:=hA1.two (k:=k) (by omega)
   have ef:=hA1.frozen
   simp only [Nat.zero_add] at c0 c1
   have hS:=OwnAt.set1 (n:=2) (enc:=rowC) (fun _=>rfl) hA1 (k:=k) (by omega) (j:=0) (by omega) (.slice (some ⟨b1,o1,none⟩) 4 cap1) (.slice (some ⟨b1,o1,none⟩) 4 cap1,rows[k].2) rfl
   simp only [Nat.zero_add,Nat.add_zero] at hS
   have HS:=Lib.hid hS;clear hS
   have hAl : w.heap.size < wr.heap.size:=hA.lt
   have X1 : Ext w w1:=ext_trans hX hx1
   have hbl1:=hO1.lt
   have HO:=Lib.hid hO1;clear hO1
   have h0 : rows[k].2 = 0:=HZ.out _ (List.getElem_mem _)
   go_wp2_with fail
   refine ⟨⟨k + 1,_,bs ++ [b1],by omega,by go_num,ext_set X1 (Nat.le_refl _) _,HS.out,by rw [List.length_set];exact hrl,by simp [hbl],?_,?_,fun r hr=>?_,fun i r b hr hb=>?_⟩,by simp [intOf];omega⟩
   ·rw [List.nodup_append]
    refine ⟨hnd,by simp,fun a ha b hb=>?_⟩
    rw [List.mem_singleton] at hb
    subst hb
    obtain ⟨i,hi,rfl⟩:=List.mem_iff_getElem.1 ha
    have:=(HP.out i rows[i] bs[i] (List.getElem?_eq_getElem (by omega)) (List.getElem?_eq_getElem hi)).2.1.lt
    omega
   ·simp only [List.mem_append,List.mem_singleton,not_or]
    exact ⟨hnb,by omega⟩
   ·rcases List.mem_or_eq_of_mem_set hr with hr | rfl
    ·exact HZ.out r hr
    ·exact h0
   ·by_cases hik : i < k
    ·rw [List.getElem?_append_left (by omega)] at hb
     rw [List.getElem?_set_ne (by omega)] at hr
     obtain ⟨h1,h2,h3⟩:=HP.out i r b hr hb
     exact ⟨h1,(h2.ext hx1).keep (setCell_other fun e=>hnb (by rw [← e];exact List.mem_of_getElem? hb)),h3⟩
    ·have hi : i = k:=by
      have:=(List.getElem?_eq_some_iff.1 hb).1
      simp at this;omega
     subst hi
     rw [List.getElem?_append_right (by omega)] at hb
     rw [List.getElem?_set_self (by omega)] at hr
     simp [hbl] at hb
     obtain rfl:=Option.some.inj hr
     subst hb
     exact ⟨h0,HO.out.keep (setCell_other (by omega)),by omega⟩
  ·obtain rfl : k = 4:=by omega
   go_wp2
   refine bodyPost_ret (v:=.slice (some ⟨w.heap.size,0,none⟩) 4 4) (by simp [results,Tryz.results39,go_sem]) rfl ⟨_,w.heap.size,bs,rfl,hX,⟨rows,⟨_,0,0,by rw [hrl],hA⟩,hrl,hbl,fun i x r b hx hr hb=>?_⟩,List.nodup_cons.2 ⟨hnb,hnd⟩,fun b hb=>?_⟩
   ·obtain ⟨h1,h2,h3⟩:=HP.out i r b hr hb
    have hxb : x = newBlock:=by
     have hi : i < 4:=(List.getElem?_eq_some_iff.1 hx).1
     match i,hi with
     | 0,_=>simpa [newFlash] using hx.symm
     | 1,_=>simpa [newFlash] using hx.symm
     | 2,_=>simpa [newFlash] using hx.symm
     | 3,_=>simpa [newFlash] using hx.symm
    subst hxb
    exact ⟨h1,h2⟩
   ·rcases List.mem_cons.1 hb with rfl | hb
    ·exact Nat.le_refl _
    ·obtain ⟨i,hi,rfl⟩:=List.mem_iff_getElem.1 hb
     exact (HP.out i rows[i] bs[i] (List.getElem?_eq_getElem (by omega)) (List.getElem?_eq_getElem hi)).2.2
end Go.Bu
namespace Go.Bu
open Go Go.RowKit Go.Plan Go.Proofs
def scanP (prev : Bool) (seen : List Int) : List Page → Option (List Int)
 | []=>some seen
 | p :: ps=>if !pageOkB p || (prev && p.state != 0) || (p.state == 1 && seen.contains p.r.seq) then none else scanP (p.state == 0) (if p.state == 1 then p.r.seq :: seen else seen) ps
def scanF (seen : List Int) : List Block → Option (List Int)
 | []=>some seen
 | b :: f=>if b.pages.length != 4 || !inB b.worn 0 200 then none else (scanP false seen b.pages).bind fun s=>scanF s f
def flashOkB (f : List Block) : Bool:=f.length == 4 && (scanF [] f).isSome
theorem scanP_drop (prev : Bool) (seen : List Int) (ps : List Page) (k : Nat) (h : k < ps.length) : scanP prev seen (ps.drop k) =
  if !pageOkB ps[k] || (prev && ps[k].state != 0) || (ps[k].state == 1 && seen.contains ps[k].r.seq) then none else scanP (ps[k].state == 0) (if ps[k].state == 1 then ps[k].r.seq :: seen else seen) (ps.drop (k + 1)):=by
 rw [List.drop_eq_getElem_cons h];rfl
theorem scanF_drop (seen : List Int) (f : List Block) (k : Nat) (h : k < f.length) : scanF seen (f.drop k) =
  if f[k].pages.length != 4 || !inB f[k].worn 0 200 then none else (scanP false seen f[k].pages).bind fun s=>scanF s (f.drop (k + 1)):=by
 rw [List.drop_eq_getElem_cons h];rfl
theorem scanP_stop {prev : Bool} {seen : List Int} {ps : List Page} {k : Nat} {rest : List Block} {A : Bool} (h : ((scanP prev seen (ps.drop k)).bind fun s=>scanF s rest).isSome = A) (hk : k < ps.length)
  (hb : (!pageOkB ps[k] || (prev && ps[k].state != 0) || (ps[k].state == 1 && seen.contains ps[k].r.seq)) = true) : A = false:=by
 rw [scanP_drop _ _ _ _ hk,if_pos hb] at h;exact h.symm
theorem scanP_go {prev : Bool} {seen : List Int} {ps : List Page} {k : Nat} {rest : List Block} {A : Bool} (n : Int) (u : Bool) (h : ((scanP prev seen (ps.drop k)).bind fun s=>scanF s rest).isSome = A) (hk : k < ps.length) (hp : pageOkB ps[k] = true)
  (hn : ps[k].r.seq = n) (hu : (ps[k].state == 1) = u) (h1 : (prev && ps[k].state != 0) = false) (h2 : (u && seen.contains n) = false) :
  ((scanP (decide (0 < k + 1) && (ps[k + 1 - 1]?).any (·.state == 0)) (if u then n :: seen else seen) (ps.drop (k + 1))).bind fun s=>scanF s rest).isSome = A:=by
 rw [scanP_drop _ _ _ _ hk,hn,hu,if_neg (by rw [hp,h1,h2];simp)] at h
 rw [← h];simp [hk]
theorem pageOk_seq {p : Page} (h : pageOkB p = true) : 0 ≤ p.r.seq ∧ p.r.seq ≤ 600:=by
 unfold pageOkB at h
 by_cases hs : p.state = 1
 ·rw [if_pos hs] at h
  simp only [recOkB,Bool.and_eq_true,inB_iff] at h
  omega
 ·rw [if_neg hs] at h
  simp only [recZ,Bool.and_eq_true,beq_iff_eq] at h
  omega
def Seen (w : World) (S : Nat) (L : List Int) : Prop:=∃ c T,w.heap[S]? = some (.cells c T (0,0)) ∧ ∀ n : Nat,n < 601 → c[n]? = some (.bool (L.contains (n : Int)))
theorem Seen.ext {w w' : World} {S : Nat} {L : List Int} (h : Seen w S L) (hx : Ext w w') : Seen w' S L:=by obtain ⟨c,T,h1,h2⟩:=h;exact ⟨c,T,keep_ext hx h1,h2⟩
theorem Seen.cell {w : World} {S : Nat} {L : List Int} (h : Seen w S L) {n : Nat} (hn : n < 601) : w.cell? ⟨S,n,none⟩ = some (.bool (L.contains (n : Int))):=by obtain ⟨c,T,h1,h2⟩:=h;rw [cell_block h1];exact h2 n hn
theorem Seen.frozen {w : World} {S : Nat} {L : List Int} (h : Seen w S L) (n : Nat) : w.frozen? ⟨S,n,none⟩ = false:=by obtain ⟨c,T,h1,h2⟩:=h;exact frozen_block h1 n
theorem Seen.lt {w : World} {S : Nat} {L : List Int} (h : Seen w S L) : S < w.heap.size:=by obtain ⟨c,T,h1,h2⟩:=h;exact heap_lt h1
theorem Seen.set {w : World} {S : Nat} {L : List Int} (h : Seen w S L) {n : Nat} (hn : n < 601) (b : Bool) (u : Bool) (hu : u = (L.contains (n : Int) || b)) : Seen (w.setCell ⟨S,n,none⟩ (.bool u)) S (if b then (n : Int) :: L else L):=by
 obtain ⟨c,T,h1,h2⟩:=h
 refine ⟨_,T,setCell_block h1,fun m hm=>?_⟩
 subst hu
 by_cases hmn : m = n
 ·subst hmn
  have:=(Array.getElem?_eq_some_iff.1 (h2 m hm)).1
  rw [Array.getElem?_setIfInBounds_self_of_lt this]
  cases b <;> simp
 ·rw [Array.getElem?_setIfInBounds_ne (Ne.symm hmn),h2 m hm]
  cases b
  ·simp
  ·have : ((m : Int) == (n : Int)) = false:=by simp;omega
   simp [this]
   intro h;omega
theorem Seen.made (w : World) (T : TypeId) : Seen (w.alloc (.cells (madeCells #[.bool false] 601) T)) w.heap.size []:=by
 refine ⟨_,T,alloc_get_new rfl,fun n hn=>?_⟩
 simp only [madeCells,Array.getElem?_map,Array.getElem?_range,hn,if_true,Option.map_some]
 simp [Nat.mod_one]
set_option maxRecDepth 20000 in
set_option maxHeartbeats 1000000 in
theorem specFlashOk_c (v : Value) (f : List Block) (w : World) (h : Flash (Old w) w v f) (hn : f.length ≤ 1048576) :
  Calls Tryz.prog 91 #[v] w (Ret w (.bool (flashOkB f))):=by
 obtain ⟨a,cap,rfl⟩:=h.form
 obtain ⟨A,hA⟩ : ∃ A,(scanF [] f).isSome = A:=⟨_,rfl⟩
 unfold flashOkB
 rw [hA]
 have HA:=Lib.hid hA;clear hA
 have hmk : ∀ w : World,(Instr.makeSlice 166 (.int .i64 601) (.int .i64 601)).run Tryz.prog w = .ok (.slice (some ⟨w.heap.size,0,none⟩) 601 601) (w.alloc (.cells (madeCells #[.bool false] 601) 4)):=
  make_n (P:=Tryz.prog) 166 4 #[.bool false] 1 1 Tryz.underlying166 (by kernel_rfl) 601 (by omega) (by omega)
 go_enter Tryz.func91,Tryz.ntmps91
 go_wp2
 clear hmk
 go_loopw [4] (fun y wr=>∃ (i : Nat) (L : List Int),i ≤ f.length ∧ y = .int .i64 i ∧ Ext w wr ∧ Hid (Seen wr w.heap.size L) ∧ Hid ((scanF L (f.drop i)).isSome = A)) (fun y _=>f.length - (intOf y).toNat)
 case atStart=>exact ⟨0,[],by omega,rfl,by go_grown,Lib.hid (Seen.made _ _),Lib.hid (by simpa using HA.out)⟩
 case round =>
  obtain ⟨i,L,hi,rfl,hX,HS,HR⟩:=hrel
  by_cases hlt : i < f.length
  ·obtain ⟨b,o,pv,rfl,hb,hpp,h0,h1⟩:=h.at2 hlt
   obtain ⟨pa,pcap,rfl⟩:=hpp.form
   obtain ⟨hc,hf⟩:=bcell hX
   have hb' : b < w.heap.size:=hb
   rw [scanF_drop _ _ _ hlt] at HR
   by_cases hlen : f[i].pages.length = 4
   ·have hnl : (((4 : Nat) : Int) != 4) = false:=by decide
    have HL:=Lib.hid hlen
    rw [hlen] at h0 hpp
    clear hlen
    by_cases hworn : inB f[i].worn 0 200 = true
    ·go_wp2_with (go_at_call 73;refine (l6In_c _ _ _ _).mono ?_;rintro e1 w1 ⟨rfl,rfl⟩;rw [hworn])
     have HRR : Hid (((scanP false L (f[i].pages.drop 0)).bind fun s=>scanF s (f.drop (i + 1))).isSome = A):=by
      have:=HR.out
      rw [if_neg (by rw [HL.out,hworn];decide)] at this
      exact this
     clear hworn HR
     go_loopw [5] (fun y wr=>∃ (k : Nat) (L : List Int),k ≤ 4 ∧ y = .int .i64 k ∧ Ext w wr ∧ Hid (Seen wr w.heap.size L) ∧
      Hid (((scanP (decide (0 < k) && ((f[i].pages[k - 1]?).any (·.state == 0))) L (f[i].pages.drop k)).bind fun s=>scanF s (f.drop (i + 1))).isSome = A)) (fun y _=>4 - (intOf y).toNat)
     case atStart=>exact ⟨0,L,by omega,rfl,hX,HS,HRR⟩
     case round =>
      clear hX HS HRR hc hf
      obtain ⟨k,L,hk,rfl,hX,HS,HR⟩:=hrel
      obtain ⟨hc,hf⟩:=bcell hX
      by_cases hk4 : k < 4
      ·have hkl : k < f[i].pages.length:=by have:=HL.out;omega
       obtain ⟨b2,o2,rfl,hb2,e0,e1,e2,e3,e4⟩:=hpp.at5 hkl
       have hb2' : b2 < w.heap.size:=hb2
       by_cases hpo : pageOkB f[i].pages[k] = true
       ·obtain ⟨n,hnq⟩ : ∃ n : Nat,f[i].pages[k].r.seq = n:=⟨f[i].pages[k].r.seq.toNat,by have:=(pageOk_seq hpo).1;omega⟩
        have hn6 : n < 601:=by have:=(pageOk_seq hpo).2;omega
        rw [hnq] at e2
        have hpc : ∀ w,Calls Tryz.prog 112 #[.agg #[.int .i64 f[i].pages[k].state,.int .i64 f[i].pages[k].r.kind,.int .i64 n,.int .i64 f[i].pages[k].r.addr,.int .i64 f[i].pages[k].r.val]] w (Ret w (.bool true)):=by
         intro w
         have:=specPageOk_c f[i].pages[k] w
         rw [hpo] at this
         simp only [pageA,hnq] at this
         exact this
        have HPC:=Lib.hid hpc;have HPO:=Lib.hid hpo;have HNQ:=Lib.hid hnq
        have sc:=HS.out.cell hn6
        have sf:=HS.out.frozen n
        have hn7 : ((n : Nat) : Int) < 601:=by omega
        have LS:=HS.out.lt
        clear hpc hpo hnq
        rcases k with _ | m
        ·simp only [Nat.zero_mul,Nat.add_zero] at e0 e1 e2 e3 e4
         have HM:=Lib.hid (rfl : (0 : Nat) = 0)
         go_wp2_with (go_at_call 112;(with_reducible refine (HPC.out _).mono ?_);rintro e5 w5 ⟨rfl,hx5⟩;obtain ⟨hc5,hf5,hz5,hX5⟩:=after1 hx5;have hz6:=Nat.lt_trans LS hz5;obtain ⟨hb5,hg5⟩:=bcell (ext_trans hX hX5))
         all_goals try
          go_ret
          have hA:=scanP_stop HR.out hkl (by rw [HPO.out,HNQ.out];first | (simp [HM.out, *];done) | (simp [HM.out, *];rename_i hq;exact hq.resolve_left (by simp;assumption)))
          exact ⟨by rw [hA];simp,ext_trans hX hX5⟩
         all_goals
          have HS5:=Lib.hid (HS.out.ext hX5)
          refine wp_region_ext [] [0,1,2,3,4,5,6,7,8,9,10,11,12,13,14,15] [] [16] (by kernel_rfl) (by kernel_rfl) ?late ?_
          case late=>exact fun f hf=>absurd hf List.not_mem_nil
          iterate 3
           refine Rob.y (v:=?_) rfl rfl (fun w1 hx hH=>?_) ?_;rotate_left
           ·go_simp;first | done | rfl | exact (Bool.not_not _).symm
           simp only [Act.put,slA,slB,slC]
          refine Rob.y (v:=?_) rfl rfl (fun w1 hx hH=>?_) ?_;rotate_left
          ·(obtain ⟨hcx,hfx⟩:=bcell hx);go_simp;first | done | rfl
          simp only [Act.put,slA,slB,slC]
          iterate 3
           refine Rob.y (v:=?_) rfl rfl (fun w1 hx hH=>?_) ?_;rotate_left
           ·go_simp;first | done | rfl | exact (Bool.not_not _).symm
           simp only [Act.put,slA,slB,slC]
          iterate 3
           refine Rob.y (v:=?_) rfl rfl (fun w1 hx hH=>?_) ?_;rotate_left
           ·(obtain ⟨hcx,hfx⟩:=bcell hx);go_simp;first | done | rfl
           simp only [Act.put,slA,slB,slC]
          refine Rob.yB (b:=?_) rfl rfl (fun w1 hx hH=>?_) (fun hb10=>?_) (fun hb10=>?_);rotate_left
          ·go_simp;first | done | rfl | exact (Bool.not_not _).symm
          focus
           try contradiction
           all_goals
            simp only [Act.put,slA,slB,slC]
            iterate 3
             refine Rob.no rfl rfl ?_
             simp only [Act.put,slA,slB,slC]
            refine Rob.y (v:=?_) rfl rfl (fun w1 hx hH=>?_) ?_;rotate_left
            ·go_simp;first | done | rfl | exact (Bool.not_not _).symm
            simp only [Act.put,slA,slB,slC]
            refine Rob.y (v:=?_) rfl rfl (fun w1 hx hH=>?_) ?_;rotate_left
            ·(obtain ⟨hcx,hfx⟩:=bcell hx);go_simp;first | done | rfl
            simp only [Act.put,slA,slB,slC]
          rotate_right
          focus
           try contradiction
           all_goals
            simp only [Act.put,slA,slB,slC]
            refine Rob.yg (v:=?_) rfl rfl (fun w1 hx hH=>?_) ?_;rotate_left
            ·go_simp;first | done | rfl | exact (Bool.not_not _).symm
            simp only [Act.put,slA,slB,slC]
            refine Rob.yg (v:=?_) rfl rfl (fun w1 hx hH=>?_) ?_;rotate_left
            ·(obtain ⟨hcx,hfx⟩:=bcell hx);go_simp;first | done | rfl
            simp only [Act.put,slA,slB,slC]
            refine Rob.yg (v:=?_) rfl rfl (fun w1 hx hH=>?_) ?_;rotate_left
            ·go_simp;first | done | rfl | exact (Bool.not_not _).symm
            simp only [Act.put,slA,slB,slC]
            refine Rob.y (v:=?_) rfl rfl (fun w1 hx hH=>?_) ?_;rotate_left
            ·go_simp;first | done | rfl | exact (Bool.not_not _).symm
            simp only [Act.put,slA,slB,slC]
            refine Rob.y (v:=?_) rfl rfl (fun w1 hx hH=>?_) ?_;rotate_left
            ·(obtain ⟨hcx,hfx⟩:=bcell hx);go_simp;first | done | rfl
            simp only [Act.put,slA,slB,slC]
          all_goals
           refine fin_tail (fun w6 hx6 _=>?_)
           simp only [dstOf,List.getElem?_cons_succ,List.getElem?_cons_zero,Option.bind_some,Act.put,slA,slB,slC,List.filterMap_cons,List.filterMap_nil]
           have sc6:=(HS5.out.ext hx6).cell hn6
           have sf6:=(HS5.out.ext hx6).frozen n
           have X6:=ext_trans hX (ext_trans hX5 hx6)
           refine wpList_plain rfl (fun K hK=>?_)
           go_simp
           refine hK _ _ ?_
           clear hK K
           refine wpList_nil ?_
           go_wp2
           refine ⟨⟨0 + 1,_,by omega,by go_num,ext_set X6 (Nat.le_refl _) _,Lib.hid ((HS5.out.ext hx6).set hn6 (f[i].pages[0].state == 1) _ (by simp [*])),Lib.hid (scanP_go n _ HR.out hkl HPO.out HNQ.out rfl (by simp [HM.out, *]) (by simp [*]))⟩,by simp [intOf];try omega⟩
        ·obtain ⟨b3,o3,heq,hb3,d0,-⟩:=hpp.at5 (k:=m) (by omega)
         simp only [Option.some.injEq,Addr.mk.injEq,and_true] at heq
         obtain ⟨rfl,rfl⟩:=heq
         have HM:=Lib.hid (List.getElem?_eq_getElem (l:=f[i].pages) (i:=m) (by omega))
         go_wp2_with (go_at_call 112;(with_reducible refine (HPC.out _).mono ?_);rintro e5 w5 ⟨rfl,hx5⟩;obtain ⟨hc5,hf5,hz5,hX5⟩:=after1 hx5;have hz6:=Nat.lt_trans LS hz5;obtain ⟨hb5,hg5⟩:=bcell (ext_trans hX hX5))
         all_goals try
          go_ret
          have hA:=scanP_stop HR.out hkl (by rw [HPO.out,HNQ.out];first | (simp [HM.out, *];done) | (simp [HM.out, *];rename_i hq;exact hq.resolve_left (by simp;assumption)))
          exact ⟨by rw [hA];simp,ext_trans hX hX5⟩
         all_goals
          have HS5:=Lib.hid (HS.out.ext hX5)
          refine wp_region_ext [] [0,1,2,3,4,5,6,7,8,9,10,11,12,13,14,15] [] [16] (by kernel_rfl) (by kernel_rfl) ?late ?_
          case late=>exact fun f hf=>absurd hf List.not_mem_nil
          iterate 3
           refine Rob.y (v:=?_) rfl rfl (fun w1 hx hH=>?_) ?_;rotate_left
           ·go_simp;first | done | rfl | exact (Bool.not_not _).symm
           simp only [Act.put,slA,slB,slC]
          refine Rob.y (v:=?_) rfl rfl (fun w1 hx hH=>?_) ?_;rotate_left
          ·(obtain ⟨hcx,hfx⟩:=bcell hx);go_simp;first | done | rfl
          simp only [Act.put,slA,slB,slC]
          iterate 3
           refine Rob.y (v:=?_) rfl rfl (fun w1 hx hH=>?_) ?_;rotate_left
           ·go_simp;first | done | rfl | exact (Bool.not_not _).symm
           simp only [Act.put,slA,slB,slC]
          iterate 3
           refine Rob.y (v:=?_) rfl rfl (fun w1 hx hH=>?_) ?_;rotate_left
           ·(obtain ⟨hcx,hfx⟩:=bcell hx);go_simp;first | done | rfl
           simp only [Act.put,slA,slB,slC]
          refine Rob.yB (b:=?_) rfl rfl (fun w1 hx hH=>?_) (fun hb10=>?_) (fun hb10=>?_);rotate_left
          ·go_simp;first | done | rfl | exact (Bool.not_not _).symm
          focus
           try contradiction
           all_goals
            simp only [Act.put,slA,slB,slC]
            iterate 3
             refine Rob.no rfl rfl ?_
             simp only [Act.put,slA,slB,slC]
            refine Rob.y (v:=?_) rfl rfl (fun w1 hx hH=>?_) ?_;rotate_left
            ·go_simp;first | done | rfl | exact (Bool.not_not _).symm
            simp only [Act.put,slA,slB,slC]
            refine Rob.y (v:=?_) rfl rfl (fun w1 hx hH=>?_) ?_;rotate_left
            ·(obtain ⟨hcx,hfx⟩:=bcell hx);go_simp;first | done | rfl
            simp only [Act.put,slA,slB,slC]
          rotate_right
          focus
           try contradiction
           all_goals
            simp only [Act.put,slA,slB,slC]
            refine Rob.yg (v:=?_) rfl rfl (fun w1 hx hH=>?_) ?_;rotate_left
            ·go_simp;first | done | rfl | exact (Bool.not_not _).symm
            simp only [Act.put,slA,slB,slC]
            refine Rob.yg (v:=?_) rfl rfl (fun w1 hx hH=>?_) ?_;rotate_left
            ·(obtain ⟨hcx,hfx⟩:=bcell hx);go_simp;first | done | rfl
            simp only [Act.put,slA,slB,slC]
            refine Rob.yg (v:=?_) rfl rfl (fun w1 hx hH=>?_) ?_;rotate_left
            ·go_simp;first | done | rfl | exact (Bool.not_not _).symm
            simp only [Act.put,slA,slB,slC]
            refine Rob.y (v:=?_) rfl rfl (fun w1 hx hH=>?_) ?_;rotate_left
            ·go_simp;first | done | rfl | exact (Bool.not_not _).symm
            simp only [Act.put,slA,slB,slC]
            refine Rob.y (v:=?_) rfl rfl (fun w1 hx hH=>?_) ?_;rotate_left
            ·(obtain ⟨hcx,hfx⟩:=bcell hx);go_simp;first | done | rfl
            simp only [Act.put,slA,slB,slC]
          all_goals
           refine fin_tail (fun w6 hx6 _=>?_)
           simp only [dstOf,List.getElem?_cons_succ,List.getElem?_cons_zero,Option.bind_some,Act.put,slA,slB,slC,List.filterMap_cons,List.filterMap_nil]
           have sc6:=(HS5.out.ext hx6).cell hn6
           have sf6:=(HS5.out.ext hx6).frozen n
           have X6:=ext_trans hX (ext_trans hX5 hx6)
           refine wpList_plain rfl (fun K hK=>?_)
           go_simp
           refine hK _ _ ?_
           clear hK K
           refine wpList_nil ?_
           go_wp2
           refine ⟨⟨(m + 1) + 1,_,by omega,by go_num,ext_set X6 (Nat.le_refl _) _,Lib.hid ((HS5.out.ext hx6).set hn6 (f[i].pages[(m + 1)].state == 1) _ (by simp [*])),Lib.hid (scanP_go n _ HR.out hkl HPO.out HNQ.out rfl (by simp [HM.out, *]) (by simp [*]))⟩,by simp [intOf];try omega⟩
       ·have hpf : pageOkB f[i].pages[k] = false:=by simpa using hpo
        clear hpo
        go_wp2_with (go_at_call 112;(with_reducible refine (specPageOk_c f[i].pages[k] _).mono ?_);rintro e5 w5 ⟨rfl,hx5⟩;obtain ⟨hc5,hf5,hz5,hX5⟩:=after1 hx5;rw [hpf])
        go_ret
        have hA:=scanP_stop HR.out hkl (by rw [hpf];simp)
        exact ⟨by rw [hA];simp,ext_trans hX hX5⟩
      ·obtain rfl : k = 4:=by omega
       have hR:=HR.out
       rw [List.drop_eq_nil_of_le (by have:=HL.out;omega)] at hR
       have hR2 : (scanF L (f.drop (i + 1))).isSome = A:=hR
       have HR2:=Lib.hid hR2
       clear hR hR2
       go_wp2_with fail
       exact ⟨⟨i + 1,L,by omega,by go_num,hX,HS,HR2⟩,by simp [intOf];omega⟩
    ·have hw' : inB f[i].worn 0 200 = false:=by simpa using hworn
     go_wp2_with (go_at_call 73;refine (l6In_c _ _ _ _).mono ?_;rintro e1 w1 ⟨rfl,rfl⟩;rw [hw'])
     go_ret
     have:=HR.out
     rw [if_pos (by rw [hw'];simp)] at this
     exact ⟨by rw [← this];simp,hX⟩
   ·have hnl : (((f[i].pages.length : Nat) : Int) != 4) = true:=by simp;omega
    have hnl2 : (f[i].pages.length != 4) = true:=by simpa using hlen
    have HN:=Lib.hid hnl2;clear hnl2
    go_wp2_with fail
    go_ret
    have:=HR.out
    rw [if_pos (by rw [HN.out];rfl)] at this
    exact ⟨by rw [← this];simp,hX⟩
  ·obtain rfl : i = f.length:=by omega
   have hr:=HR.out
   rw [List.drop_length] at hr
   simp only [scanF,Option.isSome_some] at hr
   subst hr
   go_wp2
   go_ret
   refine ⟨?_,hX⟩
   show Ending.returned (.bool (((f.length : Nat) : Int) == 4)) = _
   rw [Bool.and_true,show (((f.length : Nat) : Int) == 4) = (f.length == 4) from by rw [Bool.eq_iff_iff];simp;omega]
end Go.Bu
namespace Go.Bu
open Go Go.RowKit Go.Plan Go.Proofs
def mostStep (n : Int) (p : Page) : Int:=if n < p.r.seq then p.r.seq else n
def most (ps : List Page) : Int:=ps.foldl mostStep 0
def leastStep (n : Int) (p : Page) : Int:=if 0 < p.r.seq ∧ (n = 0 ∨ p.r.seq < n) then p.r.seq else n
def least (ps : List Page) : Int:=ps.foldl leastStep 0
def cleanStep (n : Int) (p : Page) : Int:=if p.state = 0 then n + 1 else n
def cleanN (ps : List Page) : Int:=ps.foldl cleanStep 0
def nextStep (n : Int) (b : Block) : Int:=if n < most b.pages then most b.pages else n
def maxSeq (f : List Block) : Int:=f.foldl nextStep 0
def next (f : List Block) : Int:=maxSeq f + 1
set_option maxHeartbeats 400000 in
theorem l3Most_c (pv : Value) (ps : List Page) (worn : Int) (w : World) (h : Pages (Old w) w pv ps) (hn : ps.length ≤ 1048576) :
  Calls Tryz.prog 92 #[.agg #[pv,.int .i64 worn]] w (Ret w (.int .i64 (most ps))):=by
 obtain ⟨a,cap,rfl⟩:=h.form
 obtain ⟨A,hA⟩ : ∃ A,most ps = A:=⟨_,rfl⟩
 rw [hA]
 unfold most at hA
 have HA:=Lib.hid hA;clear hA
 go_enter Tryz.func92,Tryz.ntmps92
 go_wp2
 go_loop [3,4] (fun n y=>∃ (k : Nat) (m : Int),k ≤ ps.length ∧ y = .int .i64 k ∧ n = .int .i64 m ∧ Hid ((ps.drop k).foldl mostStep m = A)) (fun _ y=>ps.length - (intOf y).toNat)
 case atStart=>exact ⟨0,0,by omega,rfl,rfl,HA⟩
 case round =>
  obtain ⟨k,m,hk,rfl,rfl,HR⟩:=hrel
  by_cases hlt : k < ps.length
  ·obtain ⟨b,o,rfl,hb,e0,e1,e2,e3,e4⟩:=h.at5 hlt
   have hb' : b < w.heap.size:=hb
   rw [foldl_drop _ _ _ _ hlt] at HR
   go_wp2
   exact ⟨⟨k + 1,_,by omega,by go_num,rfl,HR⟩,by simp [intOf];omega⟩
  ·obtain rfl : k = ps.length:=by omega
   rw [foldl_end] at HR
   have hr:=HR.out
   subst hr
   go_wp2
   go_ret
   exact ⟨rfl,by go_grown⟩
set_option maxHeartbeats 400000 in
theorem l3Least_c (pv : Value) (ps : List Page) (worn : Int) (w : World) (h : Pages (Old w) w pv ps) (hn : ps.length ≤ 1048576) :
  Calls Tryz.prog 93 #[.agg #[pv,.int .i64 worn]] w (Ret w (.int .i64 (least ps))):=by
 obtain ⟨a,cap,rfl⟩:=h.form
 obtain ⟨A,hA⟩ : ∃ A,least ps = A:=⟨_,rfl⟩
 rw [hA]
 unfold least at hA
 have HA:=Lib.hid hA;clear hA
 go_enter Tryz.func93,Tryz.ntmps93
 go_wp2
 go_loop [3,4] (fun n y=>∃ (k : Nat) (m : Int),k ≤ ps.length ∧ y = .int .i64 k ∧ n = .int .i64 m ∧ Hid ((ps.drop k).foldl leastStep m = A)) (fun _ y=>ps.length - (intOf y).toNat)
 case atStart=>exact ⟨0,0,by omega,rfl,rfl,HA⟩
 case round =>
  obtain ⟨k,m,hk,rfl,rfl,HR⟩:=hrel
  by_cases hlt : k < ps.length
  ·obtain ⟨b,o,rfl,hb,e0,e1,e2,e3,e4⟩:=h.at5 hlt
   have hb' : b < w.heap.size:=hb
   rw [foldl_drop _ _ _ _ hlt] at HR
   go_wp2
   all_goals
    try simp only [beq_iff_eq,Bool.not_eq_true,beq_eq_false_iff_ne,ne_eq,bne_iff_ne,bne_eq_false_iff_eq,decide_eq_true_eq,decide_eq_false_iff_not] at *
    refine ⟨⟨k + 1,leastStep m ps[k],by omega,by go_num,?_,HR⟩,by simp [intOf];omega⟩
    first | rw [leastStep,if_pos ⟨by omega,by omega⟩] | rw [leastStep,if_neg (by omega)]
  ·obtain rfl : k = ps.length:=by omega
   rw [foldl_end] at HR
   have hr:=HR.out
   subst hr
   go_wp2
   go_ret
   exact ⟨rfl,by go_grown⟩
set_option maxHeartbeats 400000 in
theorem l2Clean_c (pv : Value) (ps : List Page) (worn : Int) (w : World) (h : Pages (Old w) w pv ps) (hn : ps.length ≤ 1048576) :
  Calls Tryz.prog 94 #[.agg #[pv,.int .i64 worn]] w (Ret w (.int .i64 (cleanN ps))):=by
 obtain ⟨a,cap,rfl⟩:=h.form
 obtain ⟨A,hA⟩ : ∃ A,cleanN ps = A:=⟨_,rfl⟩
 rw [hA]
 unfold cleanN at hA
 have HA:=Lib.hid hA;clear hA
 go_enter Tryz.func94,Tryz.ntmps94
 go_wp2
 go_loop [3,4] (fun n y=>∃ (k : Nat) (m : Int),k ≤ ps.length ∧ y = .int .i64 k ∧ n = .int .i64 m ∧ 0 ≤ m ∧ m ≤ k ∧ Hid ((ps.drop k).foldl cleanStep m = A)) (fun _ y=>ps.length - (intOf y).toNat)
 case atStart=>exact ⟨0,0,by omega,rfl,rfl,by omega,by omega,HA⟩
 case round =>
  obtain ⟨k,m,hk,rfl,rfl,hm0,hm1,HR⟩:=hrel
  by_cases hlt : k < ps.length
  ·obtain ⟨b,o,rfl,hb,e0,e1,e2,e3,e4⟩:=h.at5 hlt
   have hb' : b < w.heap.size:=hb
   rw [foldl_drop _ _ _ _ hlt] at HR
   go_wp2
   all_goals
    try simp only [beq_iff_eq,Bool.not_eq_true,beq_eq_false_iff_ne,ne_eq,bne_iff_ne,bne_eq_false_iff_eq,decide_eq_true_eq,decide_eq_false_iff_not] at *
    refine ⟨⟨k + 1,cleanStep m ps[k],by omega,by go_num,?_,?_,?_,HR⟩,by simp [intOf];omega⟩
    ·first | rw [cleanStep,if_pos (by assumption)] | rw [cleanStep,if_neg (by assumption)]
    ·unfold cleanStep;split <;> omega
    ·unfold cleanStep;split <;> omega
  ·obtain rfl : k = ps.length:=by omega
   rw [foldl_end] at HR
   have hr:=HR.out
   subst hr
   go_wp2
   go_ret
   exact ⟨rfl,by go_grown⟩
set_option maxHeartbeats 400000 in
theorem l3Next_c (v : Value) (f : List Block) (w : World) (h : Flash (Old w) w v f) (hn : f.length ≤ 1048576) (hp : ∀ b ∈ f,b.pages.length ≤ 1048576) (hs : 0 ≤ maxSeq f ∧ maxSeq f ≤ 1000) :
  Calls Tryz.prog 109 #[v] w (Ret w (.int .i64 (next f))):=by
 obtain ⟨a,cap,rfl⟩:=h.form
 obtain ⟨A,hA⟩ : ∃ A,maxSeq f = A:=⟨_,rfl⟩
 unfold next
 rw [hA] at hs ⊢
 obtain ⟨hs1,hs2⟩:=hs
 unfold maxSeq at hA
 have HA:=Lib.hid hA;clear hA
 have HP:=Lib.hid hp;clear hp
 go_enter Tryz.func109,Tryz.ntmps109
 go_wp2
 go_loopw [3,4] (fun n y wr=>∃ (k : Nat) (m : Int),k ≤ f.length ∧ y = .int .i64 k ∧ n = .int .i64 m ∧ Ext w wr ∧ Hid ((f.drop k).foldl nextStep m = A)) (fun _ y _=>f.length - (intOf y).toNat)
 case atStart=>exact ⟨0,0,by omega,rfl,rfl,ext_refl _,HA⟩
 case round =>
  obtain ⟨k,m,hk,rfl,rfl,hX,HR⟩:=hrel
  by_cases hlt : k < f.length
  ·obtain ⟨b,o,pv,rfl,hb,hpp,h0,h1⟩:=h.at2 hlt
   obtain ⟨hc,hf⟩:=bcell hX
   have hb' : b < w.heap.size:=hb
   rw [foldl_drop _ _ _ _ hlt] at HR
   go_wp2_with fail
   refine (l3Most_c pv f[k].pages _ _ (hpp.ext hX) (HP.out _ (List.getElem_mem _))).mono ?_;rintro e1 w1 ⟨rfl,hx1⟩
   have X1:=ext_trans hX hx1
   go_wp2
   exact ⟨⟨k + 1,_,by omega,by go_num,rfl,X1,HR⟩,by simp [intOf];omega⟩
  ·obtain rfl : k = f.length:=by omega
   rw [foldl_end] at HR
   have hr:=HR.out
   subst hr
   go_wp2
   go_ret
   exact ⟨rfl,hX⟩
def openStep (f : List Block) (i : Nat) (out : Int) (b : Block) : Int:=if 0 < cleanN b.pages ∧ (out < 0 ∨ b.worn < (f[out.toNat]?.map (·.worn)).getD 0) then i else out
def openScan (f : List Block) : Nat → Int → List Block → Int × Bool
 | _,out,[]=>(if 0 < out then out else 0,decide (0 ≤ out))
 | i,out,b :: rest=>if 0 < cleanN b.pages ∧ cleanN b.pages < 4 then ((i : Int),true) else openScan f (i + 1) (openStep f i out b) rest
def openB (f : List Block) : Int × Bool:=openScan f 0 (-1) f
theorem openScan_drop (f : List Block) (out : Int) (k : Nat) (h : k < f.length) : openScan f k out (f.drop k) = if 0 < cleanN f[k].pages ∧ cleanN f[k].pages < 4 then ((k : Int),true) else openScan f (k + 1) (openStep f k out f[k]) (f.drop (k + 1)):=by
 rw [List.drop_eq_getElem_cons h];rfl
set_option maxHeartbeats 1000000 in
theorem l3Open_c (v : Value) (f : List Block) (w : World) (h : Flash (Old w) w v f) (hn : f.length ≤ 1048576) (hp : ∀ b ∈ f,b.pages.length ≤ 1048576) :
  Calls Tryz.prog 129 #[v] w (Ret w (.tuple #[.int .i64 (openB f).1,.bool (openB f).2])):=by
 obtain ⟨a,cap,rfl⟩:=h.form
 obtain ⟨A,hA⟩ : ∃ A,openB f = A:=⟨_,rfl⟩
 rw [hA]
 unfold openB at hA
 have HA:=Lib.hid hA;clear hA
 have HP:=Lib.hid hp;clear hp
 go_enter Tryz.func129,Tryz.ntmps129
 go_wp2
 go_loopw [4,5] (fun n y wr=>∃ (k : Nat) (m : Int),k ≤ f.length ∧ y = .int .i64 k ∧ n = .int .i64 m ∧ -1 ≤ m ∧ m < f.length ∧ Ext w wr ∧ Hid (openScan f k m (f.drop k) = A)) (fun _ y _=>f.length - (intOf y).toNat)
 case atStart=>exact ⟨0,-1,by omega,rfl,rfl,by omega,by omega,ext_refl _,HA⟩
 case round =>
  obtain ⟨k,m,hk,rfl,rfl,hm0,hm1,hX,HR⟩:=hrel
  by_cases hlt : k < f.length
  ·obtain ⟨b,o,pv,rfl,hb,hpp,h0,h1⟩:=h.at2 hlt
   obtain ⟨hc,hf⟩:=bcell hX
   have hb' : b < w.heap.size:=hb
   rw [openScan_drop _ _ _ hlt] at HR
   go_wp2_with fail
   refine (l2Clean_c pv f[k].pages _ _ (hpp.ext hX) (HP.out _ (List.getElem_mem _))).mono ?_;rintro e1 w1 ⟨rfl,hx1⟩
   have X1:=ext_trans hX hx1
   obtain ⟨hc1,hf1⟩:=bcell X1
   generalize hcn : cleanN f[k].pages = cn at *
   have HCN:=Lib.hid hcn;clear hcn
   by_cases hm : m < 0
   ·have hst : openStep f k m f[k] = if 0 < cn then (k : Int) else m:=by
     unfold openStep;rw [HCN.out];by_cases h0 : 0 < cn
     ·rw [if_pos ⟨h0,.inl hm⟩,if_pos h0]
     ·rw [if_neg (fun h=>h0 h.1),if_neg h0]
    have HST:=Lib.hid hst;clear hst
    go_wp2
    all_goals try
     go_ret2
     refine ⟨?_,X1⟩
     rw [← HR.out,if_pos ⟨by omega,by omega⟩]
     rfl
    all_goals
     have hr:=HR.out
     rw [if_neg (by omega),HST.out] at hr
     have HR2:=Lib.hid hr;clear hr
     refine wp_region_ext [] [0,1,2,3,4,5,6,7,8,9,10,11,12,13,14,15,16,17,18] [] [] (by kernel_rfl) (by kernel_rfl) ?late ?_
     case late=>exact fun f hf=>absurd hf List.not_mem_nil
     iterate 2
      refine Rob.y (v:=?_) rfl rfl (fun w1 hx hH=>?_) ?_;rotate_left
      ·go_simp;first | done | rfl | exact (Bool.not_not _).symm
      simp only [Act.put,slA,slB,slC]
     refine Rob.yB (b:=?_) rfl rfl (fun w1 hx hH=>?_) (fun hb2=>?_) (fun hb2=>?_);rotate_left
     ·go_simp;first | done | rfl | exact (Bool.not_not _).symm
     focus
      try contradiction
      all_goals
       simp only [Act.put,slA,slB,slC]
       iterate 2
        refine Rob.yg (v:=?_) rfl rfl (fun w1 hx hH=>?_) ?_;rotate_left
        ·go_simp;first | done | rfl | exact (Bool.not_not _).symm
        simp only [Act.put,slA,slB,slC]
       refine Rob.yB (b:=?_) rfl rfl (fun w1 hx hH=>?_) (fun hb5=>?_) (fun hb5=>?_);rotate_left
       ·go_simp;first | done | rfl | exact (Bool.not_not _).symm
       focus
        try contradiction
        all_goals
         simp only [Act.put,slA,slB,slC]
         iterate 11
          refine Rob.no rfl rfl ?_
          simp only [Act.put,slA,slB,slC]
         refine Rob.yg (v:=?_) rfl rfl (fun w1 hx hH=>?_) ?_;rotate_left
         ·go_simp;first | done | rfl | exact (Bool.not_not _).symm
         simp only [Act.put,slA,slB,slC]
         refine Rob.y (v:=?_) rfl rfl (fun w1 hx hH=>?_) ?_;rotate_left
         ·go_simp;first | done | rfl | exact (Bool.not_not _).symm
         simp only [Act.put,slA,slB,slC]
       rotate_right
       focus
        try contradiction
        all_goals
         simp only [Act.put,slA,slB,slC]
         iterate 2
          refine Rob.yg (v:=?_) rfl rfl (fun w1 hx hH=>?_) ?_;rotate_left
          ·go_simp;first | done | rfl | exact (Bool.not_not _).symm
          simp only [Act.put,slA,slB,slC]
         refine Rob.yg (v:=?_) rfl rfl (fun w1 hx hH=>?_) ?_;rotate_left
         ·(obtain ⟨hcx,hfx⟩:=bcell (ext_trans X1 hx));go_simp;first | done | rfl
         simp only [Act.put,slA,slB,slC]
         refine Rob.yg (v:=?_) rfl rfl (fun w1 hx hH=>?_) ?_;rotate_left
         ·go_simp;first | done | rfl | exact (Bool.not_not _).symm
         simp only [Act.put,slA,slB,slC]
         refine Rob.yg (v:=?_) rfl rfl (fun w1 hx hH=>?_) ?_;rotate_left
         ·(obtain ⟨hcx,hfx⟩:=bcell (ext_trans X1 hx));go_simp;first | done | rfl
         simp only [Act.put,slA,slB,slC]
         iterate 2
          refine Rob.yg (v:=?_) rfl rfl (fun w1 hx hH=>?_) ?_;rotate_left
          ·go_simp;first | done | rfl | exact (Bool.not_not _).symm
          simp only [Act.put,slA,slB,slC]
         refine Rob.yg (v:=?_) rfl rfl (fun w1 hx hH=>?_) ?_;rotate_left
         ·(obtain ⟨hcx,hfx⟩:=bcell (ext_trans X1 hx));go_simp;first | done | rfl
         simp only [Act.put,slA,slB,slC]
         refine Rob.yg (v:=?_) rfl rfl (fun w1 hx hH=>?_) ?_;rotate_left
         ·go_simp;first | done | rfl | exact (Bool.not_not _).symm
         simp only [Act.put,slA,slB,slC]
         refine Rob.yg (v:=?_) rfl rfl (fun w1 hx hH=>?_) ?_;rotate_left
         ·(obtain ⟨hcx,hfx⟩:=bcell (ext_trans X1 hx));go_simp;first | done | rfl
         simp only [Act.put,slA,slB,slC]
         iterate 2
          refine Rob.yg (v:=?_) rfl rfl (fun w1 hx hH=>?_) ?_;rotate_left
          ·go_simp;first | done | rfl | exact (Bool.not_not _).symm
          simp only [Act.put,slA,slB,slC]
         refine Rob.y (v:=?_) rfl rfl (fun w1 hx hH=>?_) ?_;rotate_left
         ·go_simp;first | done | rfl | exact (Bool.not_not _).symm
         simp only [Act.put,slA,slB,slC]
     rotate_right
     focus
      try contradiction
      all_goals
       simp only [Act.put,slA,slB,slC]
       iterate 15
        refine Rob.no rfl rfl ?_
        simp only [Act.put,slA,slB,slC]
       refine Rob.y (v:=?_) rfl rfl (fun w1 hx hH=>?_) ?_;rotate_left
       ·go_simp;first | done | rfl | exact (Bool.not_not _).symm
       simp only [Act.put,slA,slB,slC]
     all_goals
      refine fin_nil (fun w2 hx2 _=>?_)
      have X2:=ext_trans X1 hx2
      try simp only [beq_iff_eq,Bool.not_eq_true,beq_eq_false_iff_ne,ne_eq,bne_iff_ne,bne_eq_false_iff_eq,decide_eq_true_eq,decide_eq_false_iff_not] at *
      go_wp2
      all_goals try (exfalso;omega)
      all_goals
       have hr:=HR2.out
       first | rw [if_pos (by omega)] at hr | rw [if_neg (by omega)] at hr
       exact ⟨⟨k + 1,_,by omega,by go_num,rfl,by omega,by omega,X2,Lib.hid hr⟩,by simp [intOf];omega⟩
   ·obtain ⟨mm,rfl⟩ : ∃ n : Nat,m = n:=⟨m.toNat,by omega⟩
    obtain ⟨b2,o2,pv2,heq,hb2,hpp2,d0,d1⟩:=h.at2 (k:=mm) (by omega)
    simp only [Option.some.injEq,Addr.mk.injEq,and_true] at heq
    obtain ⟨rfl,rfl⟩:=heq
    have hst : openStep f k mm f[k] = if 0 < cn ∧ f[k].worn < f[mm].worn then (k : Int) else mm:=by
     unfold openStep;rw [HCN.out,Int.toNat_natCast,List.getElem?_eq_getElem (by omega)]
     simp
     split <;> split <;> first | rfl | (exfalso;omega)
    have HST:=Lib.hid hst;clear hst
    go_wp2
    all_goals try
     go_ret2
     refine ⟨?_,X1⟩
     rw [← HR.out,if_pos ⟨by omega,by omega⟩]
     rfl
    all_goals
     have hr:=HR.out
     rw [if_neg (by omega),HST.out] at hr
     have HR2:=Lib.hid hr;clear hr
     refine wp_region_ext [] [0,1,2,3,4,5,6,7,8,9,10,11,12,13,14,15,16,17,18] [] [] (by kernel_rfl) (by kernel_rfl) ?late ?_
     case late=>exact fun f hf=>absurd hf List.not_mem_nil
     iterate 2
      refine Rob.y (v:=?_) rfl rfl (fun w1 hx hH=>?_) ?_;rotate_left
      ·go_simp;first | done | rfl | exact (Bool.not_not _).symm
      simp only [Act.put,slA,slB,slC]
     refine Rob.yB (b:=?_) rfl rfl (fun w1 hx hH=>?_) (fun hb2=>?_) (fun hb2=>?_);rotate_left
     ·go_simp;first | done | rfl | exact (Bool.not_not _).symm
     focus
      try contradiction
      all_goals
       simp only [Act.put,slA,slB,slC]
       iterate 2
        refine Rob.yg (v:=?_) rfl rfl (fun w1 hx hH=>?_) ?_;rotate_left
        ·go_simp;first | done | rfl | exact (Bool.not_not _).symm
        simp only [Act.put,slA,slB,slC]
       refine Rob.yB (b:=?_) rfl rfl (fun w1 hx hH=>?_) (fun hb5=>?_) (fun hb5=>?_);rotate_left
       ·go_simp;first | done | rfl | exact (Bool.not_not _).symm
       focus
        try contradiction
        all_goals
         simp only [Act.put,slA,slB,slC]
         iterate 11
          refine Rob.no rfl rfl ?_
          simp only [Act.put,slA,slB,slC]
         refine Rob.yg (v:=?_) rfl rfl (fun w1 hx hH=>?_) ?_;rotate_left
         ·go_simp;first | done | rfl | exact (Bool.not_not _).symm
         simp only [Act.put,slA,slB,slC]
         refine Rob.y (v:=?_) rfl rfl (fun w1 hx hH=>?_) ?_;rotate_left
         ·go_simp;first | done | rfl | exact (Bool.not_not _).symm
         simp only [Act.put,slA,slB,slC]
       rotate_right
       focus
        try contradiction
        all_goals
         simp only [Act.put,slA,slB,slC]
         iterate 2
          refine Rob.yg (v:=?_) rfl rfl (fun w1 hx hH=>?_) ?_;rotate_left
          ·go_simp;first | done | rfl | exact (Bool.not_not _).symm
          simp only [Act.put,slA,slB,slC]
         refine Rob.yg (v:=?_) rfl rfl (fun w1 hx hH=>?_) ?_;rotate_left
         ·(obtain ⟨hcx,hfx⟩:=bcell (ext_trans X1 hx));go_simp;first | done | rfl
         simp only [Act.put,slA,slB,slC]
         refine Rob.yg (v:=?_) rfl rfl (fun w1 hx hH=>?_) ?_;rotate_left
         ·go_simp;first | done | rfl | exact (Bool.not_not _).symm
         simp only [Act.put,slA,slB,slC]
         refine Rob.yg (v:=?_) rfl rfl (fun w1 hx hH=>?_) ?_;rotate_left
         ·(obtain ⟨hcx,hfx⟩:=bcell (ext_trans X1 hx));go_simp;first | done | rfl
         simp only [Act.put,slA,slB,slC]
         iterate 2
          refine Rob.yg (v:=?_) rfl rfl (fun w1 hx hH=>?_) ?_;rotate_left
          ·go_simp;first | done | rfl | exact (Bool.not_not _).symm
          simp only [Act.put,slA,slB,slC]
         refine Rob.yg (v:=?_) rfl rfl (fun w1 hx hH=>?_) ?_;rotate_left
         ·(obtain ⟨hcx,hfx⟩:=bcell (ext_trans X1 hx));go_simp;first | done | rfl
         simp only [Act.put,slA,slB,slC]
         refine Rob.yg (v:=?_) rfl rfl (fun w1 hx hH=>?_) ?_;rotate_left
         ·go_simp;first | done | rfl | exact (Bool.not_not _).symm
         simp only [Act.put,slA,slB,slC]
         refine Rob.yg (v:=?_) rfl rfl (fun w1 hx hH=>?_) ?_;rotate_left
         ·(obtain ⟨hcx,hfx⟩:=bcell (ext_trans X1 hx));go_simp;first | done | rfl
         simp only [Act.put,slA,slB,slC]
         iterate 2
          refine Rob.yg (v:=?_) rfl rfl (fun w1 hx hH=>?_) ?_;rotate_left
          ·go_simp;first | done | rfl | exact (Bool.not_not _).symm
          simp only [Act.put,slA,slB,slC]
         refine Rob.y (v:=?_) rfl rfl (fun w1 hx hH=>?_) ?_;rotate_left
         ·go_simp;first | done | rfl | exact (Bool.not_not _).symm
         simp only [Act.put,slA,slB,slC]
     rotate_right
     focus
      try contradiction
      all_goals
       simp only [Act.put,slA,slB,slC]
       iterate 15
        refine Rob.no rfl rfl ?_
        simp only [Act.put,slA,slB,slC]
       refine Rob.y (v:=?_) rfl rfl (fun w1 hx hH=>?_) ?_;rotate_left
       ·go_simp;first | done | rfl | exact (Bool.not_not _).symm
       simp only [Act.put,slA,slB,slC]
     all_goals
      refine fin_nil (fun w2 hx2 _=>?_)
      have X2:=ext_trans X1 hx2
      try simp only [beq_iff_eq,Bool.not_eq_true,beq_eq_false_iff_ne,ne_eq,bne_iff_ne,bne_eq_false_iff_eq,decide_eq_true_eq,decide_eq_false_iff_not] at *
      go_wp2
      all_goals try (exfalso;omega)
      all_goals
       have hr:=HR2.out
       first | rw [if_pos (by omega)] at hr | rw [if_neg (by omega)] at hr
       exact ⟨⟨k + 1,_,by omega,by go_num,rfl,by omega,by omega,X2,Lib.hid hr⟩,by simp [intOf];omega⟩
  ·obtain rfl : k = f.length:=by omega
   rw [List.drop_length,openScan] at HR
   go_wp2
   all_goals
    go_ret2
    refine ⟨?_,hX⟩
    rw [← HR.out]
    simp
    try omega
def oldScan (f : List Block) : Nat → Nat → List Block → Nat
 | _,out,[]=>out
 | i,out,b :: rest=>oldScan f (i + 1) (if most b.pages < most ((f[out]?.map (·.pages)).getD []) then i else out) rest
def old (f : List Block) : Nat:=oldScan f 1 0 (f.drop 1)
theorem oldScan_drop (f : List Block) (out : Nat) (k : Nat) (h : k < f.length) : oldScan f k out (f.drop k) = oldScan f (k + 1) (if most f[k].pages < most ((f[out]?.map (·.pages)).getD []) then k else out) (f.drop (k + 1)):=by
 rw [List.drop_eq_getElem_cons h];rfl
set_option maxHeartbeats 1000000 in
theorem l3Old_c (v : Value) (f : List Block) (w : World) (h : Flash (Old w) w v f) (hn : f.length ≤ 1048576) (hp : ∀ b ∈ f,b.pages.length ≤ 1048576) :
  Calls Tryz.prog 130 #[v] w (Ret w (.int .i64 (old f))):=by
 obtain ⟨a,cap,rfl⟩:=h.form
 obtain ⟨A,hA⟩ : ∃ A,old f = A:=⟨_,rfl⟩
 rw [hA]
 unfold old at hA
 have HA:=Lib.hid hA;clear hA
 have HP:=Lib.hid hp;clear hp
 go_enter Tryz.func130,Tryz.ntmps130
 go_wp2
 go_loopw [3,4] (fun n y wr=>∃ (k m : Nat),1 ≤ k ∧ (k ≤ f.length ∨ k = 1) ∧ y = .int .i64 k ∧ n = .int .i64 m ∧ (m < f.length ∨ m = 0) ∧ Ext w wr ∧ Hid (oldScan f k m (f.drop k) = A)) (fun _ y _=>f.length - (intOf y).toNat)
 case atStart=>exact ⟨1,0,by omega,.inr rfl,rfl,rfl,.inr rfl,ext_refl _,HA⟩
 case round =>
  obtain ⟨k,m,hk1,hk,rfl,rfl,hm,hX,HR⟩:=hrel
  by_cases hlt : k < f.length
  ·obtain ⟨b,o,pv,rfl,hb,hpp,h0,h1⟩:=h.at2 hlt
   have hm' : m < f.length:=by omega
   obtain ⟨b2,o2,pv2,heq,hb2,hpp2,d0,d1⟩:=h.at2 hm'
   simp only [Option.some.injEq,Addr.mk.injEq,and_true] at heq
   obtain ⟨rfl,rfl⟩:=heq
   have hb' : b < w.heap.size:=hb
   rw [oldScan_drop _ _ _ hlt,List.getElem?_eq_getElem hm'] at HR
   clear hm hk
   go_wp2_with fail
   refine wp_region_ext [4,9] [0,1,2,3,5,6,7,8,4,9,10] [] [] (by kernel_rfl) (by kernel_rfl) ?late ?_
   case late=>exact fun f hf=>absurd hf List.not_mem_nil
   iterate 2
    refine Rob.y (v:=?_) rfl rfl (fun w1 hx hH=>?_) ?_;rotate_left
    ·go_simp;first | done | rfl | exact (Bool.not_not _).symm
    simp only [Act.put,slA,slB,slC]
   iterate 2
    refine Rob.y (v:=?_) rfl rfl (fun w1 hx hH=>?_) ?_;rotate_left
    ·(obtain ⟨hcx,hfx⟩:=bcell (ext_trans hX hx));go_simp;first | done | rfl
    simp only [Act.put,slA,slB,slC]
   iterate 2
    refine Rob.y (v:=?_) rfl rfl (fun w1 hx hH=>?_) ?_;rotate_left
    ·go_simp;first | done | rfl | exact (Bool.not_not _).symm
    simp only [Act.put,slA,slB,slC]
   iterate 2
    refine Rob.y (v:=?_) rfl rfl (fun w1 hx hH=>?_) ?_;rotate_left
    ·(obtain ⟨hcx,hfx⟩:=bcell (ext_trans hX hx));go_simp;first | done | rfl
    simp only [Act.put,slA,slB,slC]
   refine Rob.cv (.int .i64 (most f[k].pages)) rfl rfl rfl (fun _ _=>ext_trans) (fun w1 hx hH=>?_) (fun lo4 hi4 hlo4 hhi4=>?_)
   ·unfold RunTo;go_simp;exact (l3Most_c pv f[k].pages _ _ (hpp.ext (ext_trans hX hx)) (HP.out _ (List.getElem_mem _))).mono fun e w' h=>h.to
   simp only [Act.put,slA,slB,slC]
   refine Rob.cv (.int .i64 (most f[m].pages)) rfl rfl rfl (fun _ _=>ext_trans) (fun w1 hx hH=>?_) (fun lo9 hi9 hlo9 hhi9=>?_)
   ·unfold RunTo;go_simp;exact (l3Most_c pv2 f[m].pages _ _ (hpp2.ext (ext_trans hX hx)) (HP.out _ (List.getElem_mem _))).mono fun e w' h=>h.to
   simp only [Act.put,slA,slB,slC]
   refine Rob.y (v:=?_) rfl rfl (fun w1 hx hH=>?_) ?_;rotate_left
   ·go_simp;first | done | rfl | exact (Bool.not_not _).symm
   simp only [Act.put,slA,slB,slC]
   refine fin_nil (fun w2 hx2 _=>?_)
   have X2:=ext_trans hX hx2
   go_wp2
   all_goals
    have hr:=HR.out
    simp only [Option.map_some,Option.getD_some] at hr
    first | rw [if_pos (by omega)] at hr | rw [if_neg (by omega)] at hr
    exact ⟨⟨k + 1,_,by omega,.inl (by omega),by go_num,rfl,.inl (by omega),X2,Lib.hid hr⟩,by simp [intOf];omega⟩
  ·rw [List.drop_eq_nil_of_le (by omega),oldScan] at HR
   have hr:=HR.out
   subst hr
   go_wp2
   go_ret
   exact ⟨rfl,hX⟩
def liveP (f : List Block) (p : Page) : Bool:=p.state == 1 && recEq (last f p.r.addr) p.r
set_option maxHeartbeats 1000000 in
theorem l3Live_c (v : Value) (f : List Block) (p : Page) (w : World) (h : Flash (Old w) w v f) (hn : f.length ≤ 1048576) (hp : ∀ b ∈ f,b.pages.length ≤ 1048576) :
  Calls Tryz.prog 131 #[v,pageA p] w (Ret w (.bool (liveP f p))):=by
 have hq : liveP f p = (p.state == 1 && recEq (last f p.r.addr) p.r):=rfl
 have HQ:=Lib.hid hq;clear hq
 have HP:=Lib.hid hp;clear hp
 go_enter Tryz.func131,Tryz.ntmps131
 go_wp2_with (go_at_call 72;(with_reducible refine (l3Last_c v f p.r.addr _ (h.ext (ext_alloc (ext_refl _) _)) hn HP.out).mono ?_);rintro e1 w1 ⟨rfl,hx⟩;obtain ⟨hc,hf,hz,hX⟩:=after1 hx)
 all_goals
  go_ret
  try simp only [beq_iff_eq,Bool.not_eq_true,beq_eq_false_iff_ne,ne_eq,bne_iff_ne,bne_eq_false_iff_eq,decide_eq_true_eq,decide_eq_false_iff_not] at *
  refine ⟨by rw [HQ.out];simp [recEq, *],by go_grown⟩
end Go.Bu