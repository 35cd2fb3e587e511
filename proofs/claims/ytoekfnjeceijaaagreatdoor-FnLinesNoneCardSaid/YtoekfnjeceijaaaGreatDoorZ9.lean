/- Texts in plain Lean: cutting a text, numbers and numerals, what is printed. Small functions on strings: numbers and numerals, of the program and of the reference. The reference's numerals: l6Dec. The reference's cutting of a text: l1Cut. What the reference prints: l31Nums, l31Page, l31Flash. What LinesRun computes, in plain Lean: what a line does. A bound for wear and for numbers, line by line: four times the wear less the clean pages, and the dirty addresses. What the reference prints: l31Flash; its StoreDirty. The reference's line: l31Line. The reference's LinesRun. -/import Derived.Test.YtoekfnjeceijaaaGreatDoorZ1
import Derived.Lib.ItoaNum
import Derived.Test.YtoekfnjeceijaaaGreatDoorZ2
import Derived.Laws.Strings
import Derived.Laws.Strings2
import Derived.Laws.Strings3
import Derived.Laws.Concat
import Derived.Laws.BytesString
import Derived.Laws.BytesArg
import Derived.Deep.RegionWith
import Derived.Test.YtoekfnjeceijaaaGreatDoorZ5
import Derived.Test.YtoekfnjeceijaaaGreatDoorZ7
import Derived.Test.YtoekfnjeceijaaaGreatDoorZ6
set_option maxHeartbeats 2000000
set_option linter.unusedVariables false
set_option linter.unusedSimpArgs false
namespace Go.Bu
open Go Go.RowKit Go.Plan
abbrev Str:=List UInt8
abbrev strV (l : Str) : Value:=.string ⟨l.toArray⟩
def digit (n : Nat) : UInt8:=UInt8.ofNat (48 + n)
def decN (n : Nat) : Str:=if n < 10 then [digit n] else if n < 100 then [digit (n / 10),digit (n % 10)] else [digit (n / 100),digit (n / 10 % 10),digit (n % 10)]
def decI (n : Int) : Str:=decN n.toNat
theorem decI_nat (n : Nat) : decI (n : Int) = decN n:=by unfold decI;rw [Int.toNat_natCast]
theorem decN_one {n : Nat} (h : n < 10) : decN n = [digit n]:=by unfold decN;rw [if_pos h]
theorem decN_lib {n : Nat} (h : n < 100) : Lib.decDigits n = decN n:=by
 unfold decN
 by_cases h1 : n < 10
 ·rw [if_pos h1,Lib.decDigits,dif_pos h1];rfl
 ·rw [if_neg h1,if_pos h,Lib.decDigits,dif_neg h1,Lib.decDigits,dif_pos (by omega)];rfl
theorem decN_len {n : Nat} (h : n < 1000) : (decN n).length ≤ 3:=by
 unfold decN;split
 ·exact Nat.le_of_ble_eq_true rfl
 ·split
  ·exact Nat.le_of_ble_eq_true rfl
  ·exact Nat.le_of_ble_eq_true rfl
def cutR (c : UInt8) : Str → Str × List Str
 | []=>([],[])
 | x :: s=>match cutR c s with
  | (a,b)=>if x = c then ([],a :: b) else (x :: a,b)
def cut (c : UInt8) (s : Str) : List Str:=match cutR c s with
 | (a,b)=>a :: b
theorem cut_nil (c : UInt8) : cut c [] = [[]]:=rfl
theorem cut_hit (c : UInt8) (s : Str) : cut c (c :: s) = [] :: cut c s:=by unfold cut;rw [cutR];simp
theorem cut_miss {c x : UInt8} (h : x ≠ c) (s : Str) : ∃ a b,cut c s = a :: b ∧ cut c (x :: s) = (x :: a) :: b:=by
 unfold cut;rw [cutR];simp only [if_neg h];exact ⟨_,_,rfl,rfl⟩
theorem cut_ne (c : UInt8) (s : Str) : cut c s ≠ []:=by unfold cut;simp
theorem cut_snoc_hit (c : UInt8) : ∀ (s : Str),cut c (s ++ [c]) = cut c s ++ [[]]
 | []=>by rw [List.nil_append,cut_hit,cut_nil];rfl
 | x :: s=>by
  by_cases h : x = c
  ·subst h;rw [List.cons_append,cut_hit,cut_hit,cut_snoc_hit x s];rfl
  ·obtain ⟨a,b,h1,h2⟩:=cut_miss h s
   obtain ⟨a',b',h3,h4⟩:=cut_miss h (s ++ [c])
   rw [List.cons_append,h2,h4]
   rw [cut_snoc_hit c s,h1,List.cons_append] at h3
   obtain ⟨rfl,rfl⟩:=List.cons.inj h3
   rfl
theorem cut_snoc_miss {c x : UInt8} (h : x ≠ c) : ∀ (s : Str),∃ p q,cut c s = p ++ [q] ∧ cut c (s ++ [x]) = p ++ [q ++ [x]]
 | []=>⟨[],[],rfl,by obtain ⟨a,b,h1,h2⟩:=cut_miss h [];rw [cut_nil] at h1;obtain ⟨rfl,rfl⟩:=List.cons.inj h1;exact h2⟩
 | y :: s=>by
  obtain ⟨p,q,h1,h2⟩:=cut_snoc_miss h s
  by_cases hy : y = c
  ·subst hy;exact ⟨[] :: p,q,by rw [cut_hit,h1];rfl,by rw [List.cons_append,cut_hit,h2];rfl⟩
  ·obtain ⟨a,b,h3,h4⟩:=cut_miss hy s
   obtain ⟨a',b',h5,h6⟩:=cut_miss hy (s ++ [x])
   cases p with
   | nil =>
    rw [List.nil_append] at h1 h2
    rw [h1] at h3;rw [h2] at h5
    obtain ⟨rfl,rfl⟩:=List.cons.inj h3
    obtain ⟨rfl,rfl⟩:=List.cons.inj h5
    exact ⟨[],y :: q,h4,h6⟩
   | cons r p =>
    rw [List.cons_append] at h1 h2
    rw [h1] at h3;rw [h2] at h5
    obtain ⟨rfl,rfl⟩:=List.cons.inj h3
    obtain ⟨rfl,rfl⟩:=List.cons.inj h5
    exact ⟨(y :: r) :: p,q,h4,h6⟩
theorem cut_append (c : UInt8) (t : Str) : ∀ (s : Str),cut c (s ++ c :: t) = cut c s ++ cut c t
 | []=>by rw [List.nil_append,cut_hit,cut_nil];rfl
 | x :: s=>by
  by_cases h : x = c
  ·subst h;rw [List.cons_append,cut_hit,cut_hit,cut_append x t s];rfl
  ·obtain ⟨a,b,h1,h2⟩:=cut_miss h s
   obtain ⟨a',b',h3,h4⟩:=cut_miss h (s ++ c :: t)
   rw [List.cons_append,h2,h4]
   rw [cut_append c t s,h1,List.cons_append] at h3
   obtain ⟨rfl,rfl⟩:=List.cons.inj h3
   rfl
def sizeL (ws : List Str) : Nat:=(ws.map fun x=>x.length + 1).sum
theorem cut_size (c : UInt8) : ∀ (s : Str),sizeL (cut c s) = s.length + 1
 | []=>rfl
 | x :: s=>by
  by_cases h : x = c
  ·subst h;rw [cut_hit];have:=cut_size x s;unfold sizeL at *;simp only [List.map_cons,List.sum_cons,List.length_nil,List.length_cons];omega
  ·obtain ⟨a,b,h1,h2⟩:=cut_miss h s
   have:=cut_size c s
   rw [h2];rw [h1] at this;unfold sizeL at *;simp only [List.map_cons,List.sum_cons,List.length_cons] at *;omega
def numF : Int → Str → Int
 | n,[]=>n
 | n,x :: s=>if x.toNat < 48 ∨ 57 < x.toNat then -1 else numF (10 * n + ((x.toNat : Int) - 48)) s
def numB (s : Str) : Int:=if s.length = 0 ∨ 3 < s.length then -1 else numF 0 s
def atS (ws : List Str) (k : Nat) : Int:=match ws[k]? with
 | some x=>numB x
 | none=>-1
def numsS (w : Str) (xs : List Int) : Str:=xs.foldl (fun s n=>s ++ 32 :: decI n) w ++ [10]
def pageS (p : Page) : Str:=if p.state = 0 then [32,45] else if p.state = 2 then [32,63] else 32 :: (if p.r.kind = 1 then 100 else 99) :: (decI p.r.addr ++ decI p.r.val)
def blockS (b : Block) : Str:=b.pages.foldl (fun s p=>s ++ pageS p) (decI b.worn) ++ [10]
def flashS (f : List Block) : Str:=f.foldl (fun s b=>s ++ blockS b) []
end Go.Bu
namespace Go.Bu
open Go Go.RowKit Go.Plan Go.Proofs
theorem str_add {P : Program} (x y : Str) (h : x.length + y.length ≤ 1000000000) : ∀ w : World,(Op.stringOp .add ⟨x.toArray⟩ ⟨y.toArray⟩).run P w = .ok (.string ⟨(x ++ y).toArray⟩) w:=fun w=>by
 rw [run_string_add_sum w _ _ (by simp [ByteArray.size];omega),ByteArray.mk_append_mk]
theorem str_addz {P : Program} {x y : Str} (z : Str) (e : x ++ y = z) (h : x.length + y.length ≤ 1000000000) : ∀ w : World,(Op.stringOp .add ⟨x.toArray⟩ ⟨y.toArray⟩).run P w = .ok (.string ⟨z.toArray⟩) w:=e ▸ str_add x y h
theorem str_ix {P : Program} {t : TypeId} (ht : P.underlying t = some .string) (l : Str) (k : Nat) (hk : k < l.length) : ∀ w : World,(Instr.index t (.string ⟨l.toArray⟩) (.int .i64 (k : Int))).run P w = .ok (.int .u8 (l[k].toNat : Int)) w:=fun w=>by
 rw [run_index_string w t _ .i64 (k : Int) ht,dif_pos ⟨by omega,by simp [ByteArray.size];omega⟩]
 rfl
theorem numF_drop (n : Int) (s : Str) (k : Nat) (h : k < s.length) : numF n (s.drop k) = if s[k].toNat < 48 ∨ 57 < s[k].toNat then -1 else numF (10 * n + ((s[k].toNat : Int) - 48)) (s.drop (k + 1)):=by
 rw [List.drop_eq_getElem_cons h];rfl
theorem u8_lt (x : UInt8) : x.toNat < 256:=x.toNat_lt
theorem numB_bad {l : Str} (h : inB (l.length : Int) 1 3 = false) : numB l = -1:=by
 unfold numB;rw [if_pos]
 unfold inB at h
 by_cases h1 : l.length = 0
 ·exact .inl h1
 ·right;simp at h;have:=h (by omega);omega
theorem numB_good {l : Str} (h : inB (l.length : Int) 1 3 = true) : numB l = numF 0 l ∧ 1 ≤ l.length ∧ l.length ≤ 3:=by
 have:=inB_iff.1 h
 unfold numB;rw [if_neg (by omega)];exact ⟨rfl,by omega,by omega⟩
def pow10 : Nat → Int
 | 0=>1
 | 1=>10
 | 2=>100
 | _=>1000
theorem pow10_step {k : Nat} (hk : k ≤ 2) {n d : Int} (hn : n < pow10 k) (hd : d ≤ 9) : 10 * n + d < pow10 (k + 1):=by
 rcases (show k = 0 ∨ k = 1 ∨ k = 2 by omega) with rfl | rfl | rfl <;> simp [pow10] at * <;> omega
set_option maxRecDepth 20000 in
set_option maxHeartbeats 1000000 in
theorem l1Dec_c (l : Str) (w : World) : Calls Tryz.prog 65 #[strV l] w (Ret w (.int .i64 (numB l))):=by
 have hx:=fun (k : Nat) (hk : k < l.length)=>str_ix (P:=Tryz.prog) Tryz.underlying9 l k hk
 cases hb : inB (l.length : Int) 1 3
 ·rw [numB_bad hb]
  go_enter Tryz.func65,Tryz.ntmps65
  go_wp2_with (go_at_call 73;refine (l6In_c _ _ _ _).mono ?_;rw [hb];rintro e w' ⟨rfl,rfl⟩)
  go_ret
  exact ⟨rfl,ext_refl _⟩
 ·obtain ⟨e0,h1,h3⟩:=numB_good hb
  rw [e0]
  have HX:=Lib.hid hx;clear hx
  obtain ⟨A,hA⟩ : ∃ A,numF 0 l = A:=⟨_,rfl⟩
  rw [hA]
  have HA:=Lib.hid hA;clear hA e0
  go_enter Tryz.func65,Tryz.ntmps65
  go_wp2_with (go_at_call 73;refine (l6In_c _ _ _ _).mono ?_;rw [hb];rintro e w' ⟨rfl,rfl⟩)
  go_loop [3,4] (fun r y=>∃ (k : Nat) (n : Int),k ≤ l.length ∧ y = .int .i64 k ∧ r = .int .i64 n ∧ 0 ≤ n ∧ n < pow10 k ∧ Hid (numF n (l.drop k) = A)) (fun _ y=>l.length - (intOf y).toNat)
  case atStart=>exact ⟨0,0,by omega,rfl,rfl,by omega,by decide,HA⟩
  case round =>
   obtain ⟨k,n,hk,rfl,rfl,hn0,hn1,HR⟩:=hrel
   by_cases hlt : k < l.length
   ·have hi:=HX.out k hlt
    have hr:=HR.out
    rw [numF_drop _ _ _ hlt] at hr
    have hu:=u8_lt l[k]
    generalize hv : l[k].toNat = v at *
    have hk3 : k ≤ 2:=by omega
    have hn9 : n ≤ 99:=by rcases (show k = 0 ∨ k = 1 ∨ k = 2 by omega) with rfl | rfl | rfl <;> simp [pow10] at hn1 <;> omega
    have HN:=Lib.hid hn1;clear hn1
    by_cases hlo : v < 48
    ·have hlo' : (v : Int) < 48:=by omega
     rw [if_pos (.inl hlo)] at hr
     subst hr
     go_wp2
     go_ret
     exact ⟨rfl,ext_refl _⟩
    by_cases hhi : 57 < v
    ·have hlo' : ¬ (v : Int) < 48:=by omega
     have hhi' : (57 : Int) < v:=by omega
     rw [if_pos (.inr hhi)] at hr
     subst hr
     go_wp2
     go_ret
     exact ⟨rfl,ext_refl _⟩
    ·have hlo' : ¬ (v : Int) < 48:=by omega
     have hhi' : ¬ (57 : Int) < v:=by omega
     rw [if_neg (by omega)] at hr
     have hR2:=Lib.hid hr;clear hr
     go_wp2
     exact ⟨⟨k + 1,_,by omega,by go_num,rfl,by omega,pow10_step hk3 HN.out (by omega),hR2⟩,by simp [intOf];omega⟩
   ·obtain rfl : k = l.length:=by omega
    have hr:=HR.out
    rw [List.drop_length] at hr
    have hr2 : n = A:=hr
    subst hr2
    go_wp2
    go_ret
    exact ⟨rfl,ext_refl _⟩
abbrev strC (l : Str) : List Value:=[.string ⟨l.toArray⟩]
abbrev Strs (D : Nat → Prop) (w : World) (v : Value) (xs : List Str) : Prop:=Sl 1 (plain strC) D w v xs
theorem Strs.ext {w w' : World} {v : Value} {xs : List Str} (h : Strs (Old w) w v xs) (he : Ext w w') : Strs (Old w') w' v xs:=Sl.same (plain_kept _) h (same_old he) (old_ext he)
theorem Strs.at1 {D : Nat → Prop} {w : World} {a : Option Addr} {len cap : Nat} {xs : List Str} (h : Strs D w (.slice a len cap) xs) {k : Nat} (hk : k < xs.length) :
  ∃ b o,a = some ⟨b,o,none⟩ ∧ D b ∧ w.cell? ⟨b,o + k,none⟩ = some (.string ⟨xs[k].toArray⟩):=by
 obtain ⟨b,o,ha,hb,hc⟩:=Sl.at h hk
 have:=hc 0 _ rfl
 exact ⟨b,o,ha,hb,by simpa using this⟩
theorem atS_in {ws : List Str} {k : Nat} (h : k < ws.length) : atS ws k = numB ws[k]:=by unfold atS;rw [List.getElem?_eq_getElem h]
theorem atS_out {ws : List Str} {k : Nat} (h : ¬ k < ws.length) : atS ws k = -1:=by unfold atS;rw [List.getElem?_eq_none (by omega)]
theorem l31At_c (v : Value) (ws : List Str) (k : Nat) (hk : k ≤ 100) (hn : ws.length ≤ 1000000) (w : World) (h : Strs (Old w) w v ws) : Calls Tryz.prog 47 #[v,.int .i64 k] w (Ret w (.int .i64 (atS ws k))):=by
 obtain ⟨a,cap,rfl⟩:=h.form
 have hD:=fun (l : Str) (w' : World)=>l1Dec_c l w'
 by_cases hlt : k < ws.length
 ·rw [atS_in hlt]
  obtain ⟨b,o,rfl,hb,c0⟩:=h.at1 hlt
  have hlt' : (k : Int) < (ws.length : Int):=by omega
  clear h
  go_enter Tryz.func47,Tryz.ntmps47
  go_wp2_with fail
  refine (hD _ _).mono ?_;rintro e w' ⟨rfl,hx⟩
  go_wp2_with fail
  go_ret
  exact ⟨rfl,hx⟩
 ·rw [atS_out hlt]
  have hlt' : ¬ (k : Int) < (ws.length : Int):=by omega
  clear h
  go_enter Tryz.func47,Tryz.ntmps47
  go_wp2_with fail
  go_ret
  exact ⟨rfl,ext_refl _⟩
def wordS (ws : List Str) (k : Nat) : Str:=(ws[k]?).getD []
theorem wordAt_c (v : Value) (ws : List Str) (k : Nat) (hk : k ≤ 100) (hn : ws.length ≤ 1000000) (w : World) (h : Strs (Old w) w v ws) : Calls Tryz.prog 79 #[v,.int .i64 k] w (Ret w (strV (wordS ws k))):=by
 obtain ⟨a,cap,rfl⟩:=h.form
 by_cases hlt : k < ws.length
 ·have e : wordS ws k = ws[k]:=by unfold wordS;rw [List.getElem?_eq_getElem hlt];rfl
  rw [e]
  obtain ⟨b,o,rfl,hb,c0⟩:=h.at1 hlt
  have hlt' : ¬ (ws.length : Int) ≤ (k : Int):=by omega
  clear h
  go_enter Tryz.func79,Tryz.ntmps79
  go_wp2_with fail
  go_ret
  exact ⟨rfl,ext_refl _⟩
 ·have e : wordS ws k = []:=by unfold wordS;rw [List.getElem?_eq_none (by omega)];rfl
  rw [e]
  have hlt' : (ws.length : Int) ≤ (k : Int):=by omega
  clear h
  go_enter Tryz.func79,Tryz.ntmps79
  go_wp2_with fail
  go_ret
  exact ⟨rfl,ext_refl _⟩
theorem atS_word (ws : List Str) (k : Nat) : atS ws k = numB (wordS ws k):=by
 unfold atS wordS
 cases ws[k]? <;> rfl
set_option maxRecDepth 20000 in
set_option maxHeartbeats 1000000 in
theorem numberAt_c (v : Value) (ws : List Str) (k : Nat) (hk : k ≤ 100) (hn : ws.length ≤ 1000000) (hl : (wordS ws k).length ≤ 1000000) (w : World) (h : Strs (Old w) w v ws) : Calls Tryz.prog 56 #[v,.int .i64 k] w (Ret w (.int .i64 (atS ws k))):=by
 have hW:=wordAt_c v ws k hk hn w h
 obtain ⟨a,cap,rfl⟩:=h.form
 rw [atS_word]
 generalize wordS ws k = l at *
 clear h
 have hx:=fun (k : Nat) (hk : k < l.length)=>str_ix (P:=Tryz.prog) Tryz.underlying9 l k hk
 cases hb : inB (l.length : Int) 1 3
 ·rw [numB_bad hb]
  unfold inB at hb
  clear hx
  by_cases h0 : (l.length : Int) < 1
  ·go_enter Tryz.func56,Tryz.ntmps56
   go_wp2_with fail
   refine hW.mono ?_;rintro e w1 ⟨rfl,hx1⟩
   go_wp2_with fail
   go_ret
   exact ⟨rfl,hx1⟩
  ·have h3 : (3 : Int) < (l.length : Int):=by simp at hb;have:=hb (by omega);omega
   clear hb
   go_enter Tryz.func56,Tryz.ntmps56
   go_wp2_with fail
   refine hW.mono ?_;rintro e w1 ⟨rfl,hx1⟩
   go_wp2_with fail
   go_ret
   exact ⟨rfl,hx1⟩
 ·obtain ⟨e0,h1,h3⟩:=numB_good hb
  rw [e0]
  have HX:=Lib.hid hx;clear hx
  obtain ⟨A,hA⟩ : ∃ A,numF 0 l = A:=⟨_,rfl⟩
  rw [hA]
  have HA:=Lib.hid hA;clear hA e0 hb
  have h1' : ¬ (l.length : Int) < 1:=by omega
  have h3' : ¬ (3 : Int) < (l.length : Int):=by omega
  go_enter Tryz.func56,Tryz.ntmps56
  go_wp2_with fail
  refine hW.mono ?_;rintro e w1 ⟨rfl,hx1⟩
  go_wp2_with fail
  go_loop [6,21] (fun r y=>∃ (k : Nat) (n : Int),k ≤ l.length ∧ y = .int .i64 k ∧ r = .int .i64 n ∧ 0 ≤ n ∧ n < pow10 k ∧ Hid (numF n (l.drop k) = A)) (fun _ y=>l.length - (intOf y).toNat)
  case atStart=>exact ⟨0,0,by omega,rfl,rfl,by omega,by decide,HA⟩
  case round =>
   obtain ⟨k,n,hk,rfl,rfl,hn0,hn1,HR⟩:=hrel
   by_cases hlt : k < l.length
   ·have hi:=HX.out k hlt
    have hr:=HR.out
    rw [numF_drop _ _ _ hlt] at hr
    have hu:=u8_lt l[k]
    generalize hv : l[k].toNat = v at *
    have hk3 : k ≤ 2:=by omega
    have hn9 : n ≤ 99:=by rcases (show k = 0 ∨ k = 1 ∨ k = 2 by omega) with rfl | rfl | rfl <;> simp [pow10] at hn1 <;> omega
    have HN:=Lib.hid hn1;clear hn1
    by_cases hlo : v < 48
    ·have hlo' : (v : Int) < 48:=by omega
     rw [if_pos (.inl hlo)] at hr
     subst hr
     go_wp2
     go_ret
     exact ⟨rfl,hx1⟩
    by_cases hhi : 57 < v
    ·have hlo' : ¬ (v : Int) < 48:=by omega
     have hhi' : (57 : Int) < v:=by omega
     rw [if_pos (.inr hhi)] at hr
     subst hr
     go_wp2
     go_ret
     exact ⟨rfl,hx1⟩
    ·have hlo' : ¬ (v : Int) < 48:=by omega
     have hhi' : ¬ (57 : Int) < v:=by omega
     rw [if_neg (by omega)] at hr
     have hR2:=Lib.hid hr;clear hr
     go_wp2
     rw [show n * 10 + ((v : Int) - 48) = 10 * n + ((v : Int) - 48) by omega]
     exact ⟨⟨k + 1,_,by omega,by go_num,rfl,by omega,pow10_step hk3 HN.out (by omega),hR2⟩,by simp [intOf];omega⟩
   ·obtain rfl : k = l.length:=by omega
    have hr:=HR.out
    rw [List.drop_length] at hr
    have hr2 : n = A:=hr
    subst hr2
    go_wp2
    go_ret
    exact ⟨rfl,hx1⟩
end Go.Bu
namespace Go.Bu
open Go Go.RowKit Go.Plan Go.Proofs
theorem byte_str {w : World} {b : Nat} {n : Int} {c : Array Value} {T : TypeId} {fr : Nat × Nat} (h : w.heap[b]? = some (.cells #[.int .u8 n] T fr)) : (convert 22 9 (.slice (some ⟨b,0,none⟩) 1 1)).run Tryz.prog w = .ok (.string ⟨[UInt8.ofNat n.toNat].toArray⟩) w:=by
 have:=run_convert_bytes_arg (P:=Tryz.prog) w 22 5 Tryz.underlying22 Tryz.underlying5 b 0 1 1 [n] rfl (fun i hi=>by
  obtain rfl : i = 0:=by omega
  simp [World.cell?,h]) 9 Tryz.underlying9
 exact this
theorem byte_new (w : World) (n : Int) (T : TypeId) : (convert 22 9 (.slice (some ⟨w.heap.size,0,none⟩) 1 1)).run Tryz.prog (w.alloc (.cells #[.int .u8 n] T)) = .ok (.string ⟨[UInt8.ofNat n.toNat].toArray⟩) (w.alloc (.cells #[.int .u8 n] T)):=
 byte_str (c:=#[]) (hg_new rfl)
theorem byte_ext {w w' : World} {n : Int} {T : TypeId} (hx : Ext (w.alloc (.cells #[.int .u8 n] T)).drew w') : (convert 22 9 (.slice (some ⟨w.heap.size,0,none⟩) 1 1)).run Tryz.prog w' = .ok (.string ⟨[UInt8.ofNat n.toNat].toArray⟩) w':=
 byte_str (c:=#[]) (keep_ext hx (show (w.alloc (.cells #[.int .u8 n] T)).heap[w.heap.size]? = _ from hg_new rfl))
theorem decN_step {n : Nat} (h : ¬ n < 10) (h3 : n < 1000) : decN n = decN (n / 10) ++ [digit (n % 10)]:=by
 unfold decN
 rw [if_neg h]
 by_cases h1 : n < 100
 ·rw [if_pos h1,if_pos (by omega)];rfl
 ·rw [if_neg h1,if_neg (by omega),if_pos (by omega),Nat.div_div_eq_div_mul];rfl
section
variable {P : Program} {l : List Oper} {Q : Exit → Act → World → Prop}
end
set_option maxRecDepth 20000 in
theorem l6Dec_1 (n : Nat) (h : n < 10) (w : World) : Calls Tryz.prog 34 #[.int .i64 n] w (Ret w (strV (decN n))):=by
 rw [decN_one h]
 have h0 : ¬ (n : Int) < 0:=by omega
 have h1 : ¬ (n : Int) < -9223372036854775807:=by omega
 have h2 : (n : Int) < 10:=by omega
 have hw : IntKind.u8.wrap (48 + (n : Int)) = 48 + (n : Int):=by unfold IntKind.wrap;simp [IntKind.bits,IntKind.signed];omega
 have hc:=fun w' : World=>byte_new w' (48 + (n : Int)) 5
 have hd : UInt8.ofNat (48 + (n : Int)).toNat = digit n:=by unfold digit;congr 1
 rw [hd] at hc
 go_enter Tryz.func34,Tryz.ntmps34
 go_wp2
 go_ret
 exact ⟨rfl,ext_alloc (ext_refl _) _⟩
set_option maxRecDepth 20000 in
theorem l6Dec_s (n : Nat) (h : ¬ n < 10) (h3 : n < 1000) (hq : ∀ w,Calls Tryz.prog 34 #[.int .i64 (n / 10 : Nat)] w (Ret w (strV (decN (n / 10))))) (w : World) : Calls Tryz.prog 34 #[.int .i64 n] w (Ret w (strV (decN n))):=by
 rw [decN_step h h3]
 have h0 : ¬ (n : Int) < 0:=by omega
 have h1 : ¬ (n : Int) < -9223372036854775807:=by omega
 have h2 : ¬ (n : Int) < 10:=by omega
 have hw : IntKind.u8.wrap (48 + ((n % 10 : Nat) : Int)) = 48 + ((n % 10 : Nat) : Int):=by unfold IntKind.wrap;simp [IntKind.bits,IntKind.signed];omega
 have hd : UInt8.ofNat (48 + ((n % 10 : Nat) : Int)).toNat = digit (n % 10):=by unfold digit;congr 1
 have e1 : (n : Int).tdiv 10 = ((n / 10 : Nat) : Int):=by rw [Int.tdiv_eq_ediv_of_nonneg (by omega)];omega
 have e2 : (n : Int).tmod 10 = ((n % 10 : Nat) : Int):=by rw [Int.tmod_eq_emod_of_nonneg (by omega)];omega
 have hadd:=str_add (P:=Tryz.prog) (decN (n / 10)) [digit (n % 10)] (by have:=decN_len (n:=n / 10) (by omega);simp;omega)
 obtain ⟨q,hqq⟩ : ∃ q,n / 10 = q:=⟨_,rfl⟩
 obtain ⟨r,hrr⟩ : ∃ r,n % 10 = r:=⟨_,rfl⟩
 have hr10 : r < 10:=by omega
 have hq100 : q < 100:=by omega
 rw [hqq] at hq hadd e1
 rw [hrr] at hadd hd hw e2
 rw [hqq,hrr]
 clear hqq hrr
 have hwq : IntKind.i64.wrap (q : Int) = (q : Int):=IntWalk.i64_in _ (by omega)
 go_enter Tryz.func34,Tryz.ntmps34
 go_wp2
 have hw64 : IntKind.i64.wrap (48 + (r : Int)) = 48 + (r : Int):=IntWalk.i64_in _ (by omega)
 have hc:=fun w' : World=>byte_new w' (48 + (r : Int)) 5
 have hc2:=byte_ext (n:=48 + (r : Int)) (T:=5) (ext_refl (w.alloc (.cells #[.int .u8 (48 + (r : Int))] 5)).drew)
 rw [hd] at hc hc2
 have HD:=Lib.hid hd;clear hd
 go_region_with (go_at_call 34;refine (hq _).mono ?_;rintro e w' ⟨rfl,hx⟩;(try (have hb2:=byte_ext hx;rw [HD.out] at hb2)))
 all_goals
  go_wp2
  go_ret
  refine ⟨rfl,?_⟩
  first
   | exact ext_alloc (ext_trans (ext_drew w) hx) _
   | exact ext_trans (ext_trans (ext_alloc (ext_refl _) _) (ext_drew _)) hx
theorem l6Dec_c (n : Nat) (h : n < 1000) (w : World) : Calls Tryz.prog 34 #[.int .i64 n] w (Ret w (strV (decN n))):=by
 have s2 : ∀ m : Nat,m < 100 → ∀ w,Calls Tryz.prog 34 #[.int .i64 m] w (Ret w (strV (decN m))):=fun m hm w=>by
  by_cases h1 : m < 10
  ·exact l6Dec_1 m h1 w
  ·exact l6Dec_s m h1 (by omega) (fun w=>l6Dec_1 (m / 10) (by omega) w) w
 by_cases h1 : n < 10
 ·exact l6Dec_1 n h1 w
 ·exact l6Dec_s n h1 h (fun w=>s2 (n / 10) (by omega) w) w
end Go.Bu
namespace Go.Bu
open Go Go.RowKit Go.Plan Go.Proofs
abbrev TRow (base : Nat) (w : World) (v : Value) (xs : List Str) : Prop:=w.ownsRow base 9 1 v xs.length (xs.flatMap strC)
theorem TRow.ext {base : Nat} {w w' : World} {v : Value} {xs : List Str} (h : TRow base w v xs) (hx : Ext w w') : TRow base w' v xs:=ownsRow_ext h hx
theorem TRow.form {base : Nat} {w : World} {v : Value} {xs : List Str} (h : TRow base w v xs) : ∃ a cap,v = .slice a xs.length cap:=by
 obtain ⟨_,h2⟩:=h
 rcases h2 with ⟨rfl,h0⟩ | ⟨g,cap,cur,rfl,_⟩
 ·exact ⟨none,0,by rw [h0]⟩
 ·exact ⟨_,cap,rfl⟩
theorem flat_str : ∀ (xs : List Str) (k : Nat),(xs.flatMap strC)[k]? = (xs[k]?).map fun l=>.string ⟨l.toArray⟩
 | [],k=>by simp
 | x :: xs,0=>by simp
 | x :: xs,k + 1=>by simpa using flat_str xs k
theorem flat_str_len : ∀ (xs : List Str),(xs.flatMap strC).length = xs.length
 | []=>rfl
 | x :: xs=>by rw [List.flatMap_cons,List.length_append,flat_str_len xs];simp;omega
theorem TRow.strsB {base : Nat} {w : World} {v : Value} {xs : List Str} (h : TRow base w v xs) : Strs (fun b=>base ≤ b ∧ b < w.heap.size) w v xs:=by
 obtain ⟨h1,h2⟩:=h
 rcases h2 with ⟨rfl,h0⟩ | ⟨g,cap,cur,rfl,hb,hg,hn,_,_,ht⟩
 ·obtain rfl : xs = []:=List.length_eq_zero_iff.1 h0
  exact ⟨none,0,rfl,fun i x hx=>by simp at hx⟩
 ·refine ⟨_,cap,rfl,fun i x hx=>⟨g,0,strC x,rfl,⟨hb,heap_lt hg⟩,rfl,fun j u hu=>?_⟩⟩
  obtain rfl : j = 0:=by
   cases j with
   | zero=>rfl
   | succ j=>simp at hu
  have hi:=(List.getElem?_eq_some_iff.1 hx).1
  have e:=flat_str xs i
  rw [← ht,hx,List.getElem?_take,if_pos (by omega)] at e
  rw [cell_block hg,← Array.getElem?_toList,show 0 + i * 1 + 0 = i by omega,e]
  simp at hu ⊢
  exact hu
theorem TRow.last {base : Nat} {w : World} {v : Value} {p : List Str} {q : Str} (h : TRow base w v (p ++ [q])) : ∃ g cap,v = .slice (some ⟨g,0,none⟩) (p.length + 1) cap ∧ base ≤ g ∧ g < w.heap.size ∧ w.cell? ⟨g,p.length,none⟩ = some (.string ⟨q.toArray⟩) ∧ w.frozen? ⟨g,p.length,none⟩ = false ∧
  ∀ (w' : World) (x : Str),Ext w w' → TRow base (w'.setCell ⟨g,p.length,none⟩ (.string ⟨x.toArray⟩)) v (p ++ [x]):=by
 obtain ⟨h1,h2⟩:=h
 rcases h2 with ⟨rfl,h0⟩ | ⟨g,cap,cur,rfl,hb,hg,hn,hm,hs,ht⟩
 ·simp at h0
 ·have hl : p.length < cur.size:=by rw [hs];simp at hn;omega
  refine ⟨g,cap,by simp,hb,heap_lt hg,?_,frozen_block hg _,fun w' x hx=>⟨by rw [flat_str_len];simp,.inr ⟨g,cap,_,by simp,hb,setCell_block (keep_ext hx hg),by simpa using hn,hm,by simpa using hs,?_⟩⟩⟩
  ·have e:=flat_str (p ++ [q]) p.length
   rw [← ht,List.getElem?_take,if_pos (by simp)] at e
   rw [cell_block hg,← Array.getElem?_toList,e]
   simp
  ·simp only [List.length_append,List.length_singleton,Nat.mul_one] at ht ⊢
   rw [Array.toList_setIfInBounds,List.take_set,ht]
   apply List.ext_getElem?
   intro k
   rw [List.getElem?_set,flat_str,flat_str]
   by_cases hk : p.length = k
   ·subst hk
    rw [if_pos rfl,if_pos (by rw [flat_str_len];simp)]
    simp
   ·rw [if_neg hk]
    by_cases hk2 : k < p.length
    ·rw [List.getElem?_append_left hk2,List.getElem?_append_left hk2]
    ·rw [List.getElem?_eq_none (by simp;omega),List.getElem?_eq_none (by simp;omega)]
theorem wpList_appStr {w : World} {ops : Array Oper} {rest : List Oper} {o : Oper} {a : Act} {Q : Exit → Act → World → Prop} (hgd : o.guard = none) (s x : Operand)
  (ho : o.op = .call { callee:=.builtin .append,args:=#[s,x],argTypes:=#[25,25] }) {base : Nat} {v : Value} {xs : List Str} (hs : a.eval s = v) (hown : TRow base w v xs)
  {B : Nat} {y : Str} (hx : a.eval x = .slice (some ⟨B,0,none⟩) 1 1) (hB : w.heap[B]? = some (.cells #[.string ⟨y.toArray⟩] 9 (0,0))) (hlen : xs.length ≤ 1000000) (hbase : base ≤ w.heap.size)
  (h : ∀ v' w',TRow base w' v' (xs ++ [y]) → w.grownBy w' v.ownBlock → wpList Tryz.prog ops Q rest (a.put o.dst v') w') : wpList Tryz.prog ops Q (o :: rest) a w:=by
 refine wpList_app hgd s x 25 ho base 9 1 16 Tryz.underlying25 (by kernel_rfl) (by omega) v xs.length (xs.flatMap strC) hs hown ⟨B,0,none⟩ 1 1 (strC y) hx rfl (fun j u hu=>?_) (by simp [Value.oneCell']) (by simp [maxLen];omega) (by omega) hbase (fun v' w' h1 h2=>h v' w' ?_ h2)
 ·rw [Addr.add_mid,cell_block hB,Nat.zero_add];simpa using hu
 ·show w'.ownsRow _ _ _ _ _ _
  rw [List.length_append,List.flatMap_append];simpa using h1
def StrsB (w : World) (xs : List Str) (e : Ending) (w' : World) : Prop:=∃ v,e = .returned v ∧ Ext w w' ∧ Strs (fun b=>w.heap.size ≤ b ∧ b < w'.heap.size) w' v xs
def StrsP (w : World) (xs : List Str) (e : Ending) (w' : World) : Prop:=∃ v,e = .returned v ∧ Ext w w' ∧ Strs (Old w') w' v xs
theorem cut_len (c : UInt8) (s : Str) : (cut c s).length ≤ s.length + 1:=by
 have h:=cut_size c s
 have : ∀ ws : List Str,ws.length ≤ sizeL ws:=by
  intro ws
  induction ws with
  | nil=>exact Nat.le_refl _
  | cons w ws ih=>unfold sizeL at *;simp only [List.map_cons,List.sum_cons,List.length_cons];omega
 have:=this (cut c s);omega
theorem cut_last_len (c : UInt8) (s : Str) (p : List Str) (q : Str) (h : cut c s = p ++ [q]) : q.length ≤ s.length:=by
 have h2:=cut_size c s
 rw [h] at h2
 unfold sizeL at h2
 simp only [List.map_append,List.sum_append,List.map_cons,List.map_nil,List.sum_cons,List.sum_nil] at h2
 omega
set_option maxRecDepth 20000 in
set_option maxHeartbeats 2000000 in
theorem l1Cut_b (l : Str) (c : UInt8) (hl : l.length ≤ 900000) (w : World) : Calls Tryz.prog 30 #[strV l,.int .u8 (c.toNat : Int)] w (StrsB w (cut c l)):=by
 have hx:=fun (k : Nat) (hk : k < l.length)=>str_ix (P:=Tryz.prog) Tryz.underlying9 l k hk
 have HX:=Lib.hid hx;clear hx
 obtain ⟨cn,hcn⟩ : ∃ cn,c.toNat = cn:=⟨_,rfl⟩
 rw [hcn]
 go_enter Tryz.func30,Tryz.ntmps30
 go_wp2_with fail
 have hR0 : TRow w.heap.size (w.alloc (.cells #[.string ⟨#[]⟩] 9)) (.slice (some ⟨w.heap.size,0,none⟩) 1 1) [[]]:=
  ⟨rfl,.inr ⟨w.heap.size,1,_,rfl,Nat.le_refl _,hg_new rfl,Nat.le_refl _,by simp [maxLen],rfl,rfl⟩⟩
 go_loopw [5,6] (fun v y wr=>∃ (k : Nat),k ≤ l.length ∧ y = .int .i64 (k : Int) ∧ Ext w wr ∧ TRow w.heap.size wr v (cut c (l.take k))) (fun _ y _=>l.length - (intOf y).toNat)
 case atStart=>exact ⟨0,by omega,rfl,ext_alloc (ext_refl _) _,by rw [List.take_zero,cut_nil];exact hR0⟩
 case round =>
  clear hR0
  obtain ⟨k,hk,rfl,hX,hT⟩:=hrel
  by_cases hlt : k < l.length
  ·have hi:=HX.out k hlt
   have htk : l.take (k + 1) = l.take k ++ [l[k]]:=(take_snoc l k hlt).symm
   have hcl:=cut_len c (l.take k)
   have hs:=hX.size
   by_cases hc : l[k] = c
   ·have hs2 : cut c (l.take (k + 1)) = cut c (l.take k) ++ [[]]:=by rw [htk,hc,cut_snoc_hit]
    rw [hc,hcn] at hi
    have HS2:=Lib.hid hs2
    have HT:=Lib.hid hT
    clear hs2 htk hT
    go_wp2_with (refine wpList_appStr rfl _ _ rfl rfl (HT.out.ext (ext_alloc (ext_refl _) _)) (y:=[]) rfl (hg_new rfl) (by simp at hcl;omega) (by simp;omega) (fun v' w' hS' hg=>?_))
    go_roundw
    case rel=>exact ⟨k + 1,by omega,by go_num,ext_grown (ext_alloc hX _) (HT.out.ext (ext_alloc (ext_refl _) _)) hg,by rw [HS2.out];exact hS'⟩
    case measure=>simp [intOf];omega
   ·obtain ⟨p,q,h1,h2⟩:=cut_snoc_miss hc (l.take k)
    have hq:=cut_last_len c _ _ _ h1
    rw [← htk] at h2
    rw [h1] at hT hcl
    obtain ⟨g,cap,rfl,hgb,hgl,c9,f9,hset⟩:=hT.last
    have hne : ¬ ((l[k].toNat : Int) = (cn : Int)):=by
     intro e;exact hc (UInt8.toNat_inj.1 (by omega))
    have hu:=u8_lt l[k]
    have hd : UInt8.ofNat ((l[k].toNat : Int)).toNat = l[k]:=by simp
    obtain ⟨x,hxx⟩ : ∃ x,l[k] = x:=⟨_,rfl⟩
    rw [hxx] at hi hne hu hd h2
    have hadd:=str_add (P:=Tryz.prog) q [x] (by simp at hq ⊢;omega)
    have H2:=Lib.hid h2
    have HSET:=Lib.hid hset
    have HD:=Lib.hid hd
    clear h1 h2 hset hd htk hxx hc hT
    go_wp2_with fail
    have hpl : p.length ≤ 900000:=by simp at hcl;omega
    have hlen : ((p.length + 1 : Nat) : Int) - 1 = (p.length : Int):=by omega
    have hwp : IntKind.i64.wrap (((p.length + 1 : Nat) : Int) - 1) = (p.length : Int):=by rw [hlen];exact IntWalk.i64_in _ (by omega)
    have hwp2 : IntKind.i64.wrap ((p.length : Int) + 1 - 1) = (p.length : Int):=by rw [show (p.length : Int) + 1 - 1 = (p.length : Int) by omega];exact IntWalk.i64_in _ (by omega)
    have hwp3 : IntKind.i64.wrap (p.length : Int) = (p.length : Int):=IntWalk.i64_in _ (by omega)
    have hpp : (p.length : Int) < (p.length : Int) + 1:=by omega
    refine wp_region_ext [13] [0,1,2,3,4,5,6,7,8,9,10,11,12,13,14,15,16] [] [17] (by kernel_rfl) (by kernel_rfl) ?late ?_
    case late=>exact fun f hf=>absurd hf List.not_mem_nil
    iterate 8
     refine Rob.y (v:=?_) rfl rfl (fun w1 hx hH=>?_) ?_;rotate_left
     ·go_simp;first | done | rfl | exact (Bool.not_not _).symm
     simp only [Act.put,slA,slB,slC]
    refine Rob.y (v:=?_) rfl rfl (fun w1 hx hH=>?_) ?_;rotate_left
    ·(obtain ⟨hcx,hfx⟩:=bcell (show Ext wr w1 from by first | exact hx | exact hx.1));go_simp;first | done | rfl
    simp only [Act.put,slA,slB,slC]
    refine Rob.y (v:=?_) rfl rfl (fun w1 hx hH=>?_) ?_;rotate_left
    ·obtain ⟨hcx,hfx⟩:=bcell hx;have k9:=(hcx _ _ hgl).trans c9;go_simp;first | done | rfl
    simp only [Act.put,slA,slB,slC]
    iterate 2
     refine Rob.y (v:=?_) rfl rfl (fun w1 hx hH=>?_) ?_;rotate_left
     ·go_simp;first | done | rfl | exact (Bool.not_not _).symm
     simp only [Act.put,slA,slB,slC]
    refine Rob.y (v:=?_) rfl rfl (fun w1 hx hH=>?_) ?_;rotate_left
    ·(obtain ⟨hcx,hfx⟩:=bcell (show Ext wr w1 from by first | exact hx | exact hx.1));go_simp;first | done | rfl
    simp only [Act.put,slA,slB,slC]
    refine Rob.al (.cells #[.int .u8 (x.toNat : Int)] 5) (fun lo=>.slice (some ⟨lo,0,none⟩) 1 1) rfl rfl rfl (fun _ _ h hx=>ext_trans h hx) (fun w1=>by go_simp) (fun lo13 hi13 hlo13 hhi13=>?_)
    simp only [Act.put,slA,slB,slC]
    refine Rob.y (v:=?_) rfl rfl (fun w1 hx hH=>?_) ?_;rotate_left
    ·have hcc:=byte_str (c:=#[]) hx.2;rw [HD.out] at hcc;go_simp;first | done | rfl
    simp only [Act.put,slA,slB,slC]
    refine Rob.y (v:=?_) rfl rfl (fun w1 hx hH=>?_) ?_;rotate_left
    ·go_simp;first | done | rfl | exact (Bool.not_not _).symm
    simp only [Act.put,slA,slB,slC]
    refine Rob.y (v:=?_) rfl rfl (fun w1 hx hH=>?_) ?_;rotate_left
    ·(obtain ⟨hcx,hfx⟩:=bcell (show Ext wr w1 from by first | exact hx | exact hx.1));go_simp;first | done | rfl
    simp only [Act.put,slA,slB,slC]
    refine fin_tail (fun w2 hx2 _=>?_)
    simp only [dstOf,List.getElem?_cons_succ,List.getElem?_cons_zero,Option.bind_some,Act.put,slA,slB,slC,List.filterMap_cons,List.filterMap_nil]
    obtain ⟨hx2,hb2⟩:=hx2
    have hst:=HSET.out w2 (q ++ [x]) hx2
    obtain ⟨hcx,hfx⟩:=bcell hx2
    have k9:=(hcx _ _ hgl).trans c9
    have kf9:=(hfx g p.length hgl).trans f9
    have X2:=ext_trans hX hx2
    have HST:=Lib.hid hst
    clear hst hcx hfx
    refine wpList_plain rfl (fun K hK=>?_)
    go_simp
    refine hK _ _ ?_
    clear hK K
    refine wpList_nil ?_
    go_wp2_with fail
    go_roundw
    case rel=>exact ⟨k + 1,by omega,by go_num,ext_set X2 hgb _,by rw [H2.out];exact HST.out⟩
    case measure=>simp [intOf];omega
  ·obtain rfl : k = l.length:=by omega
   rw [List.take_length] at hT
   obtain ⟨a1,c1,rfl⟩:=hT.form
   go_wp2_with fail
   go_ret
   exact ⟨_,rfl,hX,hT.strsB⟩
theorem l1Cut_c (l : Str) (c : UInt8) (hl : l.length ≤ 900000) (w : World) : Calls Tryz.prog 30 #[strV l,.int .u8 (c.toNat : Int)] w (StrsP w (cut c l)):=
 (l1Cut_b l c hl w).mono fun e w' ⟨v,h1,h2,h3⟩=>⟨v,h1,h2,Sl.same (plain_kept _) h3 (fun _ _=>rfl) fun b hb=>hb.2⟩
end Go.Bu
namespace Go.Bu
open Go Go.RowKit Go.Plan Go.Proofs
def Small3 (n : Int) : Prop:=0 ≤ n ∧ n < 1000
theorem l6Dec_i (n : Int) (h : Small3 n) (w : World) : Calls Tryz.prog 34 #[.int .i64 n] w (Ret w (strV (decI n))):=by
 obtain ⟨m,rfl⟩:=Int.eq_ofNat_of_zero_le h.1
 rw [decI_nat]
 exact l6Dec_c m (by have:=h.2;omega) w
theorem decI_len {n : Int} (h : Small3 n) : (decI n).length ≤ 3:=by unfold decI;exact decN_len (by have:=h.1;have:=h.2;omega)
def numG (s : Str) (n : Int) : Str:=s ++ 32 :: decI n
set_option maxRecDepth 20000 in
set_option maxHeartbeats 1000000 in
theorem l31Nums_c (word : Str) (v : Value) (xs : List Int) (w : World) (h : Ints (Old w) w v xs) (hx : ∀ n ∈ xs,Small3 n) (hn : xs.length ≤ 1000) (hw : word.length ≤ 1000) : Calls Tryz.prog 32 #[strV word,v] w (Ret w (strV (numsS word xs))):=by
 have e : numsS word xs = xs.foldl numG word ++ [10]:=rfl
 rw [e]
 obtain ⟨A,hA⟩ : ∃ A,xs.foldl numG word = A:=⟨_,rfl⟩
 rw [hA]
 have HA:=Lib.hid hA;clear hA e
 have HXS:=Lib.hid hx;clear hx
 have hD:=fun (n : Int) (hs : Small3 n) (w' : World)=>l6Dec_i n hs w'
 have hI:=fun (w' : World) (hx : Ext w w')=>h.ext hx
 obtain ⟨a,cap,rfl⟩:=h.form
 have HI:=Lib.hid hI;clear hI h
 have HD:=Lib.hid hD;clear hD
 go_enter Tryz.func32,Tryz.ntmps32
 go_wp2_with fail
 go_loopw [0,5] (fun r y wr=>∃ (k : Nat) (s : Str),k ≤ xs.length ∧ y = .int .i64 (k : Int) ∧ r = strV s ∧ s.length ≤ 1000 + 4 * k ∧ Hid ((xs.drop k).foldl numG s = A) ∧ Ext w wr) (fun _ y _=>xs.length - (intOf y).toNat)
 case atStart=>exact ⟨0,word,by omega,rfl,rfl,by omega,HA,ext_refl _⟩
 case round =>
  obtain ⟨k,s,hk,rfl,rfl,hsl,HR,hX⟩:=hrel
  by_cases hlt : k < xs.length
  ·have hr:=HR.out
   rw [foldl_drop _ _ _ _ hlt] at hr
   have h3:=HXS.out _ (List.getElem_mem hlt)
   obtain ⟨b,o,rfl,hb,c0⟩:=(HI.out wr hX).at1 hlt
   generalize xs[k] = n at *
   have hdl:=decI_len h3
   have hdc:=HD.out n h3
   have ha1:=str_add (P:=Tryz.prog) s [32] (by simp;omega)
   have ha2:=str_addz (P:=Tryz.prog) (x:=s ++ [32]) (y:=decI n) (s ++ 32 :: decI n) (by simp) (by simp;omega)
   have e2 : numG s n = s ++ 32 :: decI n:=rfl
   rw [e2] at hr
   have hl2 : (s ++ 32 :: decI n).length ≤ 1000 + 4 * (k + 1):=by simp;omega
   have HR2:=Lib.hid hr
   have HL2:=Lib.hid hl2
   clear hr e2 hl2
   generalize decI n = d at *
   go_wp2_with fail
   refine (hdc _).mono ?_;rintro e1 w1 ⟨rfl,hx1⟩
   have X1:=ext_trans hX hx1
   go_wp2_with fail
   go_roundw
   case rel=>exact ⟨k + 1,_,by omega,by go_num,rfl,HL2.out,HR2,X1⟩
   case measure=>simp [intOf];omega
  ·obtain rfl : k = xs.length:=by omega
   have hr:=HR.out
   rw [List.drop_length] at hr
   have hr2 : s = A:=hr
   subst hr2
   have ha1:=str_add (P:=Tryz.prog) s [10] (by simp;omega)
   go_wp2_with fail
   go_ret
   exact ⟨rfl,hX⟩
def PageT (p : Page) : Prop:=pageOkB p = true
theorem pageT_cases {p : Page} (h : PageT p) : (p.state = 0 ∧ pageS p = [32,45]) ∨ (p.state = 2 ∧ pageS p = [32,63]) ∨ (p.state = 1 ∧ ∃ x : UInt8,((p.r.kind = 1 ∧ x = 100) ∨ (p.r.kind = 2 ∧ x = 99)) ∧ pageS p = 32 :: x :: (decI p.r.addr ++ decI p.r.val) ∧ (1 ≤ p.r.addr ∧ p.r.addr ≤ 6) ∧ 0 ≤ p.r.val ∧ p.r.val ≤ 9):=by
 unfold PageT pageOkB at h
 by_cases h1 : p.state = 1
 ·rw [if_pos h1] at h
  have:=recOkB_iff.1 h
  right;right
  refine ⟨h1,if p.r.kind = 1 then 100 else 99,?_,?_,this.2.2.1,this.2.2.2⟩
  ·by_cases hk : p.r.kind = 1
   ·exact .inl ⟨hk,by rw [if_pos hk]⟩
   ·exact .inr ⟨by omega,by rw [if_neg hk]⟩
  ·unfold pageS;rw [if_neg (by omega),if_neg (by omega)]
 ·rw [if_neg h1] at h
  simp at h
  rcases h.1 with h | h
  ·exact .inl ⟨h,by unfold pageS;rw [if_pos h]⟩
  ·exact .inr (.inl ⟨h,by unfold pageS;rw [if_neg (by omega),if_pos h]⟩)
set_option maxRecDepth 20000 in
set_option maxHeartbeats 1000000 in
theorem l31Page_c (p : Page) (h : PageT p) (w : World) : Calls Tryz.prog 66 #[pageA p] w (Ret w (strV (pageS p))):=by
 rcases pageT_cases h with ⟨h1,e⟩ | ⟨h1,e⟩ | ⟨h1,x,hk,e,ha,hv⟩
 ·rw [e];clear e h
  obtain ⟨st,rk,rs,ra,rv⟩:=p
  dsimp only at h1
  subst h1
  go_enter Tryz.func66,Tryz.ntmps66
  go_wp2_with fail
  go_ret
  exact ⟨rfl,ext_alloc (ext_refl _) _⟩
 ·rw [e];clear e h
  obtain ⟨st,rk,rs,ra,rv⟩:=p
  dsimp only at h1
  subst h1
  go_enter Tryz.func66,Tryz.ntmps66
  go_wp2_with fail
  go_ret
  exact ⟨rfl,ext_alloc (ext_refl _) _⟩
 ·rw [e];clear e h
  obtain ⟨st,rk,rs,ra,rv⟩:=p
  dsimp only at *
  subst h1
  have hda:=l6Dec_i ra ⟨by omega,by omega⟩
  have hdv:=l6Dec_i rv ⟨by omega,by omega⟩
  have hla:=decI_len (n:=ra) ⟨by omega,by omega⟩
  have hlv:=decI_len (n:=rv) ⟨by omega,by omega⟩
  have ha1:=str_addz (P:=Tryz.prog) (x:=[32]) (y:=[x]) [32,x] rfl (by simp)
  have ha2:=str_addz (P:=Tryz.prog) (x:=[32,x]) (y:=decI ra) (32 :: x :: decI ra) rfl (by simp;omega)
  have ha3:=str_addz (P:=Tryz.prog) (x:=32 :: x :: decI ra) (y:=decI rv) (32 :: x :: (decI ra ++ decI rv)) rfl (by simp;omega)
  obtain ⟨kn,hkn,hk0,hxx⟩ : ∃ kn : Nat,rk = (kn : Int) ∧ kn < 3 ∧ (#[.string ⟨#[]⟩,.string ⟨#[100]⟩,.string ⟨#[99]⟩] : Array Value)[kn]? = some (.string ⟨[x].toArray⟩):=by
   rcases hk with ⟨h1,rfl⟩ | ⟨h1,rfl⟩
   ·exact ⟨1,by omega,by omega,rfl⟩
   ·exact ⟨2,by omega,by omega,rfl⟩
  subst hkn
  clear hk ha hv
  generalize decI ra = da at *
  generalize decI rv = dv at *
  have hk3 : (kn : Int) < 3:=by omega
  have HK:=Lib.hid hxx;clear hxx
  go_enter Tryz.func66,Tryz.ntmps66
  go_wp2_with fail
  have G0:=hg_new (w:=w) (b:=w.heap.size) (x:=.cells #[.int .i64 1,.int .i64 (kn : Int),.int .i64 rs,.int .i64 ra,.int .i64 rv] 102) rfl
  refine wp_region_H (by kernel_rfl) (fun w0 hx0=>?_)
  refine wpAnyH_take (i:=1) (v:=?_) rfl (by kernel_rfl) (by kernel_rfl) (by kernel_rfl) (fun _ _ _ h=>h) (Or.inl ⟨by rfl,fun w1 hx=>?_⟩) hx0 ?_;rotate_left
  ·go_simp;first | done | rfl
  simp only [Act.put,List.getElem_toArray,List.getElem_cons_succ,List.getElem_cons_zero,slA,slB,slC]
  refine wpAnyH_take (i:=2) (v:=?_) rfl (by kernel_rfl) (by kernel_rfl) (by kernel_rfl) (fun _ _ _ h=>h) (Or.inl ⟨by rfl,fun w1 hx=>?_⟩) hx0 ?_;rotate_left
  ·go_simp;first | done | rfl
  simp only [Act.put,List.getElem_toArray,List.getElem_cons_succ,List.getElem_cons_zero,slA,slB,slC]
  refine wpAnyH_take (i:=3) (v:=?_) rfl (by kernel_rfl) (by kernel_rfl) (by kernel_rfl) (fun _ _ _ h=>h) (Or.inl ⟨by rfl,fun w1 hx=>?_⟩) hx0 ?_;rotate_left
  ·(obtain ⟨z0,zf0⟩:=cellsK (keep_ext hx G0));go_simp;first | done | rfl
  simp only [Act.put,List.getElem_toArray,List.getElem_cons_succ,List.getElem_cons_zero,slA,slB,slC]
  refine wpAnyH_take (i:=7) (v:=?_) rfl (by kernel_rfl) (by kernel_rfl) (by kernel_rfl) (fun _ _ _ h=>h) (Or.inl ⟨by rfl,fun w1 hx=>?_⟩) hx0 ?_;rotate_left
  ·go_simp;first | done | rfl
  simp only [Act.put,List.getElem_toArray,List.getElem_cons_succ,List.getElem_cons_zero,slA,slB,slC]
  refine wpAnyH_take (i:=8) (v:=?_) rfl (by kernel_rfl) (by kernel_rfl) (by kernel_rfl) (fun _ _ _ h=>h) (Or.inl ⟨by rfl,fun w1 hx=>?_⟩) hx0 ?_;rotate_left
  ·go_simp;first | done | rfl
  simp only [Act.put,List.getElem_toArray,List.getElem_cons_succ,List.getElem_cons_zero,slA,slB,slC]
  refine wpAnyH_take (i:=9) (v:=?_) rfl (by kernel_rfl) (by kernel_rfl) (by kernel_rfl) (fun _ _ _ h=>h) (Or.inl ⟨by rfl,fun w1 hx=>?_⟩) hx0 ?_;rotate_left
  ·(obtain ⟨z0,zf0⟩:=cellsK (keep_ext hx G0));go_simp;first | done | rfl
  simp only [Act.put,List.getElem_toArray,List.getElem_cons_succ,List.getElem_cons_zero,slA,slB,slC]
  refine wpAnyH_take (i:=12) (v:=?_) rfl (by kernel_rfl) (by kernel_rfl) (by kernel_rfl) (fun _ _ _ h=>h) (Or.inl ⟨by rfl,fun w1 hx=>?_⟩) hx0 ?_;rotate_left
  ·go_simp;first | done | rfl
  simp only [Act.put,List.getElem_toArray,List.getElem_cons_succ,List.getElem_cons_zero,slA,slB,slC]
  refine wpAnyH_take (i:=13) (v:=?_) rfl (by kernel_rfl) (by kernel_rfl) (by kernel_rfl) (fun _ _ _ h=>h) (Or.inl ⟨by rfl,fun w1 hx=>?_⟩) hx0 ?_;rotate_left
  ·go_simp;first | done | rfl
  simp only [Act.put,List.getElem_toArray,List.getElem_cons_succ,List.getElem_cons_zero,slA,slB,slC]
  refine wpAnyH_take (i:=14) (v:=?_) rfl (by kernel_rfl) (by kernel_rfl) (by kernel_rfl) (fun _ _ _ h=>h) (Or.inl ⟨by rfl,fun w1 hx=>?_⟩) hx0 ?_;rotate_left
  ·(obtain ⟨z0,zf0⟩:=cellsK (keep_ext hx G0));go_simp;first | done | rfl
  simp only [Act.put,List.getElem_toArray,List.getElem_cons_succ,List.getElem_cons_zero,slA,slB,slC]
  refine wpAnyH_all (rs:=[0,10]) (by kernel_rfl) (by simp) (fun i hi=>?_)
  simp only [List.mem_cons,List.not_mem_nil,or_false] at hi
  rcases hi with rfl | rfl
  focus
   refine anyH_alloc (.cells #[.string ⟨#[]⟩,.string ⟨#[100]⟩,.string ⟨#[99]⟩] 9) (fun b=>.slice (some ⟨b,0,none⟩) 3 3) rfl rfl ?_ (fun w1 hx=>ext_trans hx0 hx) (fun w1 b0 hxx hb0 hob0 hx1=>?_)
   ·go_simp
   clear hxx
   simp only [Act.put,List.getElem_toArray,List.getElem_cons_succ,List.getElem_cons_zero,slA,slB,slC]
   refine wpAnyH_take (i:=4) (v:=?_) rfl (by kernel_rfl) (by kernel_rfl) (by kernel_rfl) (fun _ _ _ h=>h) (Or.inl ⟨by rfl,fun w1 hx=>?_⟩) hx1 ?_;rotate_left
   ·go_simp;first | done | rfl
   simp only [Act.put,List.getElem_toArray,List.getElem_cons_succ,List.getElem_cons_zero,slA,slB,slC]
   refine wpAnyH_all (rs:=[5,10]) (by kernel_rfl) (by simp) (fun i hi=>?_)
   simp only [List.mem_cons,List.not_mem_nil,or_false] at hi
   rcases hi with rfl | rfl
   focus
    refine anyH_y (v:=.string ⟨[x].toArray⟩) rfl rfl ?_ hx1 ?_
    ·have c4 : w1.cell? ⟨b0,kn,none⟩ = some (.string ⟨[x].toArray⟩):=(by rw [cell_block hob0];exact HK.out);go_simp
    simp only [Act.put,List.getElem_toArray,List.getElem_cons_succ,List.getElem_cons_zero,slA,slB,slC]
    refine wpAnyH_take (i:=6) (v:=?_) rfl (by kernel_rfl) (by kernel_rfl) (by kernel_rfl) (fun _ _ _ h=>h) (Or.inl ⟨by rfl,fun w1 hx=>?_⟩) hx1 ?_;rotate_left
    ·go_simp;first | done | rfl
    simp only [Act.put,List.getElem_toArray,List.getElem_cons_succ,List.getElem_cons_zero,slA,slB,slC]
    refine wpAnyH_all (rs:=[10]) (by kernel_rfl) (by simp) (fun i hi=>?_)
    simp only [List.mem_cons,List.not_mem_nil,or_false] at hi
    subst hi
    refine anyH_call (strV da) rfl rfl ?_ (fun w1 hx=>ext_trans hx1 hx) (fun w2 hxx hx2=>?_)
    ·unfold RunTo;go_simp;exact (hda _).mono fun e w' h=>h.to
    replace hob0:=keep_ext hxx hob0
    clear hxx
    simp only [Act.put,List.getElem_toArray,List.getElem_cons_succ,List.getElem_cons_zero,slA,slB,slC]
    refine wpAnyH_take (i:=11) (v:=?_) rfl (by kernel_rfl) (by kernel_rfl) (by kernel_rfl) (fun _ _ _ h=>h) (Or.inl ⟨by rfl,fun w1 hx=>?_⟩) hx2 ?_;rotate_left
    ·go_simp;first | done | rfl
    simp only [Act.put,List.getElem_toArray,List.getElem_cons_succ,List.getElem_cons_zero,slA,slB,slC]
    refine wpAnyH_all (rs:=[15]) (by kernel_rfl) (by simp) (fun i hi=>?_)
    simp only [List.mem_cons,List.not_mem_nil,or_false] at hi
    subst hi
    refine anyH_call (strV dv) rfl rfl ?_ (fun w1 hx=>ext_trans hx2 hx) (fun w3 hxx hx3=>?_)
    ·unfold RunTo;go_simp;exact (hdv _).mono fun e w' h=>h.to
    replace hob0:=keep_ext hxx hob0
    clear hxx
    simp only [Act.put,List.getElem_toArray,List.getElem_cons_succ,List.getElem_cons_zero,slA,slB,slC]
    refine wpAnyH_take (i:=16) (v:=?_) rfl (by kernel_rfl) (by kernel_rfl) (by kernel_rfl) (fun _ _ _ h=>h) (Or.inl ⟨by rfl,fun w1 hx=>?_⟩) hx3 ?_;rotate_left
    ·go_simp;first | done | rfl
    simp only [Act.put,List.getElem_toArray,List.getElem_cons_succ,List.getElem_cons_zero,slA,slB,slC]
    refine wpAnyH_take (i:=17) (v:=?_) rfl (by kernel_rfl) (by kernel_rfl) (by kernel_rfl) (fun _ _ _ h=>h) (Or.inl ⟨by rfl,fun w1 hx=>?_⟩) hx3 ?_;rotate_left
    ·go_simp;first | done | rfl
    simp only [Act.put,List.getElem_toArray,List.getElem_cons_succ,List.getElem_cons_zero,slA,slB,slC]
    refine wpAnyH_done (by kernel_rfl) ?_ _
    go_wp2_with fail
    go_ret
    exact ⟨rfl,ext_trans (ext_alloc (ext_refl _) _) hx3⟩
   focus
    refine anyH_call (strV da) rfl rfl ?_ (fun w1 hx=>ext_trans hx1 hx) (fun w2 hxx hx2=>?_)
    ·unfold RunTo;go_simp;exact (hda _).mono fun e w' h=>h.to
    replace hob0:=keep_ext hxx hob0
    clear hxx
    simp only [Act.put,List.getElem_toArray,List.getElem_cons_succ,List.getElem_cons_zero,slA,slB,slC]
    refine wpAnyH_all (rs:=[5,15]) (by kernel_rfl) (by simp) (fun i hi=>?_)
    simp only [List.mem_cons,List.not_mem_nil,or_false] at hi
    rcases hi with rfl | rfl
    focus
     refine anyH_y (v:=.string ⟨[x].toArray⟩) rfl rfl ?_ hx2 ?_
     ·have c4 : w2.cell? ⟨b0,kn,none⟩ = some (.string ⟨[x].toArray⟩):=(by rw [cell_block hob0];exact HK.out);go_simp
     simp only [Act.put,List.getElem_toArray,List.getElem_cons_succ,List.getElem_cons_zero,slA,slB,slC]
     refine wpAnyH_take (i:=6) (v:=?_) rfl (by kernel_rfl) (by kernel_rfl) (by kernel_rfl) (fun _ _ _ h=>h) (Or.inl ⟨by rfl,fun w1 hx=>?_⟩) hx2 ?_;rotate_left
     ·go_simp;first | done | rfl
     simp only [Act.put,List.getElem_toArray,List.getElem_cons_succ,List.getElem_cons_zero,slA,slB,slC]
     refine wpAnyH_take (i:=11) (v:=?_) rfl (by kernel_rfl) (by kernel_rfl) (by kernel_rfl) (fun _ _ _ h=>h) (Or.inl ⟨by rfl,fun w1 hx=>?_⟩) hx2 ?_;rotate_left
     ·go_simp;first | done | rfl
     simp only [Act.put,List.getElem_toArray,List.getElem_cons_succ,List.getElem_cons_zero,slA,slB,slC]
     refine wpAnyH_all (rs:=[15]) (by kernel_rfl) (by simp) (fun i hi=>?_)
     simp only [List.mem_cons,List.not_mem_nil,or_false] at hi
     subst hi
     refine anyH_call (strV dv) rfl rfl ?_ (fun w1 hx=>ext_trans hx2 hx) (fun w3 hxx hx3=>?_)
     ·unfold RunTo;go_simp;exact (hdv _).mono fun e w' h=>h.to
     replace hob0:=keep_ext hxx hob0
     clear hxx
     simp only [Act.put,List.getElem_toArray,List.getElem_cons_succ,List.getElem_cons_zero,slA,slB,slC]
     refine wpAnyH_take (i:=16) (v:=?_) rfl (by kernel_rfl) (by kernel_rfl) (by kernel_rfl) (fun _ _ _ h=>h) (Or.inl ⟨by rfl,fun w1 hx=>?_⟩) hx3 ?_;rotate_left
     ·go_simp;first | done | rfl
     simp only [Act.put,List.getElem_toArray,List.getElem_cons_succ,List.getElem_cons_zero,slA,slB,slC]
     refine wpAnyH_take (i:=17) (v:=?_) rfl (by kernel_rfl) (by kernel_rfl) (by kernel_rfl) (fun _ _ _ h=>h) (Or.inl ⟨by rfl,fun w1 hx=>?_⟩) hx3 ?_;rotate_left
     ·go_simp;first | done | rfl
     simp only [Act.put,List.getElem_toArray,List.getElem_cons_succ,List.getElem_cons_zero,slA,slB,slC]
     refine wpAnyH_done (by kernel_rfl) ?_ _
     go_wp2_with fail
     go_ret
     exact ⟨rfl,ext_trans (ext_alloc (ext_refl _) _) hx3⟩
    focus
     refine anyH_call (strV dv) rfl rfl ?_ (fun w1 hx=>ext_trans hx2 hx) (fun w3 hxx hx3=>?_)
     ·unfold RunTo;go_simp;exact (hdv _).mono fun e w' h=>h.to
     replace hob0:=keep_ext hxx hob0
     clear hxx
     simp only [Act.put,List.getElem_toArray,List.getElem_cons_succ,List.getElem_cons_zero,slA,slB,slC]
     refine wpAnyH_all (rs:=[5]) (by kernel_rfl) (by simp) (fun i hi=>?_)
     simp only [List.mem_cons,List.not_mem_nil,or_false] at hi
     subst hi
     refine anyH_y (v:=.string ⟨[x].toArray⟩) rfl rfl ?_ hx3 ?_
     ·have c4 : w3.cell? ⟨b0,kn,none⟩ = some (.string ⟨[x].toArray⟩):=(by rw [cell_block hob0];exact HK.out);go_simp
     simp only [Act.put,List.getElem_toArray,List.getElem_cons_succ,List.getElem_cons_zero,slA,slB,slC]
     refine wpAnyH_take (i:=6) (v:=?_) rfl (by kernel_rfl) (by kernel_rfl) (by kernel_rfl) (fun _ _ _ h=>h) (Or.inl ⟨by rfl,fun w1 hx=>?_⟩) hx3 ?_;rotate_left
     ·go_simp;first | done | rfl
     simp only [Act.put,List.getElem_toArray,List.getElem_cons_succ,List.getElem_cons_zero,slA,slB,slC]
     refine wpAnyH_take (i:=11) (v:=?_) rfl (by kernel_rfl) (by kernel_rfl) (by kernel_rfl) (fun _ _ _ h=>h) (Or.inl ⟨by rfl,fun w1 hx=>?_⟩) hx3 ?_;rotate_left
     ·go_simp;first | done | rfl
     simp only [Act.put,List.getElem_toArray,List.getElem_cons_succ,List.getElem_cons_zero,slA,slB,slC]
     refine wpAnyH_take (i:=16) (v:=?_) rfl (by kernel_rfl) (by kernel_rfl) (by kernel_rfl) (fun _ _ _ h=>h) (Or.inl ⟨by rfl,fun w1 hx=>?_⟩) hx3 ?_;rotate_left
     ·go_simp;first | done | rfl
     simp only [Act.put,List.getElem_toArray,List.getElem_cons_succ,List.getElem_cons_zero,slA,slB,slC]
     refine wpAnyH_take (i:=17) (v:=?_) rfl (by kernel_rfl) (by kernel_rfl) (by kernel_rfl) (fun _ _ _ h=>h) (Or.inl ⟨by rfl,fun w1 hx=>?_⟩) hx3 ?_;rotate_left
     ·go_simp;first | done | rfl
     simp only [Act.put,List.getElem_toArray,List.getElem_cons_succ,List.getElem_cons_zero,slA,slB,slC]
     refine wpAnyH_done (by kernel_rfl) ?_ _
     go_wp2_with fail
     go_ret
     exact ⟨rfl,ext_trans (ext_alloc (ext_refl _) _) hx3⟩
  focus
   refine anyH_call (strV da) rfl rfl ?_ (fun w1 hx=>ext_trans hx0 hx) (fun w1 hxx hx1=>?_)
   ·unfold RunTo;go_simp;exact (hda _).mono fun e w' h=>h.to
   clear hxx
   simp only [Act.put,List.getElem_toArray,List.getElem_cons_succ,List.getElem_cons_zero,slA,slB,slC]
   refine wpAnyH_all (rs:=[0,15]) (by kernel_rfl) (by simp) (fun i hi=>?_)
   simp only [List.mem_cons,List.not_mem_nil,or_false] at hi
   rcases hi with rfl | rfl
   focus
    refine anyH_alloc (.cells #[.string ⟨#[]⟩,.string ⟨#[100]⟩,.string ⟨#[99]⟩] 9) (fun b=>.slice (some ⟨b,0,none⟩) 3 3) rfl rfl ?_ (fun w1 hx=>ext_trans hx1 hx) (fun w2 b0 hxx hb0 hob0 hx2=>?_)
    ·go_simp
    clear hxx
    simp only [Act.put,List.getElem_toArray,List.getElem_cons_succ,List.getElem_cons_zero,slA,slB,slC]
    refine wpAnyH_take (i:=4) (v:=?_) rfl (by kernel_rfl) (by kernel_rfl) (by kernel_rfl) (fun _ _ _ h=>h) (Or.inl ⟨by rfl,fun w1 hx=>?_⟩) hx2 ?_;rotate_left
    ·go_simp;first | done | rfl
    simp only [Act.put,List.getElem_toArray,List.getElem_cons_succ,List.getElem_cons_zero,slA,slB,slC]
    refine wpAnyH_all (rs:=[5,15]) (by kernel_rfl) (by simp) (fun i hi=>?_)
    simp only [List.mem_cons,List.not_mem_nil,or_false] at hi
    rcases hi with rfl | rfl
    focus
     refine anyH_y (v:=.string ⟨[x].toArray⟩) rfl rfl ?_ hx2 ?_
     ·have c4 : w2.cell? ⟨b0,kn,none⟩ = some (.string ⟨[x].toArray⟩):=(by rw [cell_block hob0];exact HK.out);go_simp
     simp only [Act.put,List.getElem_toArray,List.getElem_cons_succ,List.getElem_cons_zero,slA,slB,slC]
     refine wpAnyH_take (i:=6) (v:=?_) rfl (by kernel_rfl) (by kernel_rfl) (by kernel_rfl) (fun _ _ _ h=>h) (Or.inl ⟨by rfl,fun w1 hx=>?_⟩) hx2 ?_;rotate_left
     ·go_simp;first | done | rfl
     simp only [Act.put,List.getElem_toArray,List.getElem_cons_succ,List.getElem_cons_zero,slA,slB,slC]
     refine wpAnyH_take (i:=11) (v:=?_) rfl (by kernel_rfl) (by kernel_rfl) (by kernel_rfl) (fun _ _ _ h=>h) (Or.inl ⟨by rfl,fun w1 hx=>?_⟩) hx2 ?_;rotate_left
     ·go_simp;first | done | rfl
     simp only [Act.put,List.getElem_toArray,List.getElem_cons_succ,List.getElem_cons_zero,slA,slB,slC]
     refine wpAnyH_all (rs:=[15]) (by kernel_rfl) (by simp) (fun i hi=>?_)
     simp only [List.mem_cons,List.not_mem_nil,or_false] at hi
     subst hi
     refine anyH_call (strV dv) rfl rfl ?_ (fun w1 hx=>ext_trans hx2 hx) (fun w3 hxx hx3=>?_)
     ·unfold RunTo;go_simp;exact (hdv _).mono fun e w' h=>h.to
     replace hob0:=keep_ext hxx hob0
     clear hxx
     simp only [Act.put,List.getElem_toArray,List.getElem_cons_succ,List.getElem_cons_zero,slA,slB,slC]
     refine wpAnyH_take (i:=16) (v:=?_) rfl (by kernel_rfl) (by kernel_rfl) (by kernel_rfl) (fun _ _ _ h=>h) (Or.inl ⟨by rfl,fun w1 hx=>?_⟩) hx3 ?_;rotate_left
     ·go_simp;first | done | rfl
     simp only [Act.put,List.getElem_toArray,List.getElem_cons_succ,List.getElem_cons_zero,slA,slB,slC]
     refine wpAnyH_take (i:=17) (v:=?_) rfl (by kernel_rfl) (by kernel_rfl) (by kernel_rfl) (fun _ _ _ h=>h) (Or.inl ⟨by rfl,fun w1 hx=>?_⟩) hx3 ?_;rotate_left
     ·go_simp;first | done | rfl
     simp only [Act.put,List.getElem_toArray,List.getElem_cons_succ,List.getElem_cons_zero,slA,slB,slC]
     refine wpAnyH_done (by kernel_rfl) ?_ _
     go_wp2_with fail
     go_ret
     exact ⟨rfl,ext_trans (ext_alloc (ext_refl _) _) hx3⟩
    focus
     refine anyH_call (strV dv) rfl rfl ?_ (fun w1 hx=>ext_trans hx2 hx) (fun w3 hxx hx3=>?_)
     ·unfold RunTo;go_simp;exact (hdv _).mono fun e w' h=>h.to
     replace hob0:=keep_ext hxx hob0
     clear hxx
     simp only [Act.put,List.getElem_toArray,List.getElem_cons_succ,List.getElem_cons_zero,slA,slB,slC]
     refine wpAnyH_all (rs:=[5]) (by kernel_rfl) (by simp) (fun i hi=>?_)
     simp only [List.mem_cons,List.not_mem_nil,or_false] at hi
     subst hi
     refine anyH_y (v:=.string ⟨[x].toArray⟩) rfl rfl ?_ hx3 ?_
     ·have c4 : w3.cell? ⟨b0,kn,none⟩ = some (.string ⟨[x].toArray⟩):=(by rw [cell_block hob0];exact HK.out);go_simp
     simp only [Act.put,List.getElem_toArray,List.getElem_cons_succ,List.getElem_cons_zero,slA,slB,slC]
     refine wpAnyH_take (i:=6) (v:=?_) rfl (by kernel_rfl) (by kernel_rfl) (by kernel_rfl) (fun _ _ _ h=>h) (Or.inl ⟨by rfl,fun w1 hx=>?_⟩) hx3 ?_;rotate_left
     ·go_simp;first | done | rfl
     simp only [Act.put,List.getElem_toArray,List.getElem_cons_succ,List.getElem_cons_zero,slA,slB,slC]
     refine wpAnyH_take (i:=11) (v:=?_) rfl (by kernel_rfl) (by kernel_rfl) (by kernel_rfl) (fun _ _ _ h=>h) (Or.inl ⟨by rfl,fun w1 hx=>?_⟩) hx3 ?_;rotate_left
     ·go_simp;first | done | rfl
     simp only [Act.put,List.getElem_toArray,List.getElem_cons_succ,List.getElem_cons_zero,slA,slB,slC]
     refine wpAnyH_take (i:=16) (v:=?_) rfl (by kernel_rfl) (by kernel_rfl) (by kernel_rfl) (fun _ _ _ h=>h) (Or.inl ⟨by rfl,fun w1 hx=>?_⟩) hx3 ?_;rotate_left
     ·go_simp;first | done | rfl
     simp only [Act.put,List.getElem_toArray,List.getElem_cons_succ,List.getElem_cons_zero,slA,slB,slC]
     refine wpAnyH_take (i:=17) (v:=?_) rfl (by kernel_rfl) (by kernel_rfl) (by kernel_rfl) (fun _ _ _ h=>h) (Or.inl ⟨by rfl,fun w1 hx=>?_⟩) hx3 ?_;rotate_left
     ·go_simp;first | done | rfl
     simp only [Act.put,List.getElem_toArray,List.getElem_cons_succ,List.getElem_cons_zero,slA,slB,slC]
     refine wpAnyH_done (by kernel_rfl) ?_ _
     go_wp2_with fail
     go_ret
     exact ⟨rfl,ext_trans (ext_alloc (ext_refl _) _) hx3⟩
   focus
    refine anyH_call (strV dv) rfl rfl ?_ (fun w1 hx=>ext_trans hx1 hx) (fun w2 hxx hx2=>?_)
    ·unfold RunTo;go_simp;exact (hdv _).mono fun e w' h=>h.to
    clear hxx
    simp only [Act.put,List.getElem_toArray,List.getElem_cons_succ,List.getElem_cons_zero,slA,slB,slC]
    refine wpAnyH_all (rs:=[0]) (by kernel_rfl) (by simp) (fun i hi=>?_)
    simp only [List.mem_cons,List.not_mem_nil,or_false] at hi
    subst hi
    refine anyH_alloc (.cells #[.string ⟨#[]⟩,.string ⟨#[100]⟩,.string ⟨#[99]⟩] 9) (fun b=>.slice (some ⟨b,0,none⟩) 3 3) rfl rfl ?_ (fun w1 hx=>ext_trans hx2 hx) (fun w3 b0 hxx hb0 hob0 hx3=>?_)
    ·go_simp
    clear hxx
    simp only [Act.put,List.getElem_toArray,List.getElem_cons_succ,List.getElem_cons_zero,slA,slB,slC]
    refine wpAnyH_take (i:=4) (v:=?_) rfl (by kernel_rfl) (by kernel_rfl) (by kernel_rfl) (fun _ _ _ h=>h) (Or.inl ⟨by rfl,fun w1 hx=>?_⟩) hx3 ?_;rotate_left
    ·go_simp;first | done | rfl
    simp only [Act.put,List.getElem_toArray,List.getElem_cons_succ,List.getElem_cons_zero,slA,slB,slC]
    refine wpAnyH_all (rs:=[5]) (by kernel_rfl) (by simp) (fun i hi=>?_)
    simp only [List.mem_cons,List.not_mem_nil,or_false] at hi
    subst hi
    refine anyH_y (v:=.string ⟨[x].toArray⟩) rfl rfl ?_ hx3 ?_
    ·have c4 : w3.cell? ⟨b0,kn,none⟩ = some (.string ⟨[x].toArray⟩):=(by rw [cell_block hob0];exact HK.out);go_simp
    simp only [Act.put,List.getElem_toArray,List.getElem_cons_succ,List.getElem_cons_zero,slA,slB,slC]
    refine wpAnyH_take (i:=6) (v:=?_) rfl (by kernel_rfl) (by kernel_rfl) (by kernel_rfl) (fun _ _ _ h=>h) (Or.inl ⟨by rfl,fun w1 hx=>?_⟩) hx3 ?_;rotate_left
    ·go_simp;first | done | rfl
    simp only [Act.put,List.getElem_toArray,List.getElem_cons_succ,List.getElem_cons_zero,slA,slB,slC]
    refine wpAnyH_take (i:=11) (v:=?_) rfl (by kernel_rfl) (by kernel_rfl) (by kernel_rfl) (fun _ _ _ h=>h) (Or.inl ⟨by rfl,fun w1 hx=>?_⟩) hx3 ?_;rotate_left
    ·go_simp;first | done | rfl
    simp only [Act.put,List.getElem_toArray,List.getElem_cons_succ,List.getElem_cons_zero,slA,slB,slC]
    refine wpAnyH_take (i:=16) (v:=?_) rfl (by kernel_rfl) (by kernel_rfl) (by kernel_rfl) (fun _ _ _ h=>h) (Or.inl ⟨by rfl,fun w1 hx=>?_⟩) hx3 ?_;rotate_left
    ·go_simp;first | done | rfl
    simp only [Act.put,List.getElem_toArray,List.getElem_cons_succ,List.getElem_cons_zero,slA,slB,slC]
    refine wpAnyH_take (i:=17) (v:=?_) rfl (by kernel_rfl) (by kernel_rfl) (by kernel_rfl) (fun _ _ _ h=>h) (Or.inl ⟨by rfl,fun w1 hx=>?_⟩) hx3 ?_;rotate_left
    ·go_simp;first | done | rfl
    simp only [Act.put,List.getElem_toArray,List.getElem_cons_succ,List.getElem_cons_zero,slA,slB,slC]
    refine wpAnyH_done (by kernel_rfl) ?_ _
    go_wp2_with fail
    go_ret
    exact ⟨rfl,ext_trans (ext_alloc (ext_refl _) _) hx3⟩
end Go.Bu
namespace Go.Bu
open Go Go.RowKit Go.Plan Go.Proofs
def dirtyL (s : Store) : List Int:=(addrs6.filter fun (n : Nat)=>dirtyB s ((n : Int) + 1)).map fun (n : Nat)=>(n : Int) + 1
def wPut : Str:=[112,117,116]
def wFall : Str:=[102,97,108,108]
def wFlush : Str:=[102,108,117,115,104]
def wFill : Str:=[102,105,108,108]
def wAll : Str:=[97,108,108]
def wSee : Str:=[115,101,101]
def wDisk : Str:=[100,105,115,107]
def wDirty : Str:=[100,105,114,116,121]
def wWhat : Str:=[119,104,97,116,10]
def wLong : Str:=[116,111,111,32,108,111,110,103,10]
def evPut (ws : List Str) : Event:=⟨1,atS ws 1,atS ws 2,60,false⟩
def evFall (ws : List Str) : Event:=⟨1,atS ws 1,atS ws 2,atS ws 3,true⟩
def evFlush (ws : List Str) : Event:=⟨2,atS ws 1,0,60,false⟩
def evFill (ws : List Str) : Event:=⟨3,atS ws 1,0,60,false⟩
def wordsDo (s : Store) (ws : List Str) : Store × Str:=
 if ws.headD [] = wPut then (playDoS s (evPut ws),[])
 else if ws.headD [] = wFall then (playDoS s (evFall ws),[])
 else if ws.headD [] = wFlush then (playDoS s (evFlush ws),[])
 else if ws.headD [] = wFill then (playDoS s (evFill ws),[])
 else if ws.headD [] = wAll then (playAllS s,[])
 else if ws.headD [] = wSee then (s,flashS s.flash)
 else if ws.headD [] = wDisk then (s,numsS wDisk s.disk)
 else if ws.headD [] = wDirty then (s,numsS wDirty (dirtyL s))
 else (s,wWhat)
def lineDo (s : Store) (l : Str) : Store × Str:=wordsDo s (cut 32 l)
def stepL (r : Store × Str) (l : Str) : Store × Str:=match lineDo r.1 l with
 | (s,a)=>(s,r.2 ++ a)
def linesDo (r : Store × Str) (ls : List Str) : Store × Str:=ls.foldl stepL r
def runS (text : Str) : Store × Str:=linesDo (newStore,[]) (cut 10 text).dropLast
def linesRun (text : Str) : Str:=if 600 < text.length then wLong else (runS text).2 ++ numsS wAll (allS (runS text).1)
theorem stepL_eq (r : Store × Str) (l : Str) : stepL r l = ((lineDo r.1 l).1,r.2 ++ (lineDo r.1 l).2):=rfl
theorem wd1 (s : Store) {ws : List Str}  (h : ws.headD [] = wPut) : wordsDo s ws = (playDoS s (evPut ws),[]):=by unfold wordsDo;rw [if_pos h]
theorem wd2 (s : Store) {ws : List Str} (h1 : ¬ ws.headD [] = wPut) (h : ws.headD [] = wFall) : wordsDo s ws = (playDoS s (evFall ws),[]):=by unfold wordsDo;rw [if_neg h1,if_pos h]
theorem wd3 (s : Store) {ws : List Str} (h1 : ¬ ws.headD [] = wPut) (h2 : ¬ ws.headD [] = wFall) (h : ws.headD [] = wFlush) : wordsDo s ws = (playDoS s (evFlush ws),[]):=by unfold wordsDo;rw [if_neg h1,if_neg h2,if_pos h]
theorem wd4 (s : Store) {ws : List Str} (h1 : ¬ ws.headD [] = wPut) (h2 : ¬ ws.headD [] = wFall) (h3 : ¬ ws.headD [] = wFlush) (h : ws.headD [] = wFill) : wordsDo s ws = (playDoS s (evFill ws),[]):=by unfold wordsDo;rw [if_neg h1,if_neg h2,if_neg h3,if_pos h]
theorem wd5 (s : Store) {ws : List Str} (h1 : ¬ ws.headD [] = wPut) (h2 : ¬ ws.headD [] = wFall) (h3 : ¬ ws.headD [] = wFlush) (h4 : ¬ ws.headD [] = wFill) (h : ws.headD [] = wAll) : wordsDo s ws = (playAllS s,[]):=by unfold wordsDo;rw [if_neg h1,if_neg h2,if_neg h3,if_neg h4,if_pos h]
theorem wd6 (s : Store) {ws : List Str} (h1 : ¬ ws.headD [] = wPut) (h2 : ¬ ws.headD [] = wFall) (h3 : ¬ ws.headD [] = wFlush) (h4 : ¬ ws.headD [] = wFill) (h5 : ¬ ws.headD [] = wAll) (h : ws.headD [] = wSee) : wordsDo s ws = (s,flashS s.flash):=by unfold wordsDo;rw [if_neg h1,if_neg h2,if_neg h3,if_neg h4,if_neg h5,if_pos h]
theorem wd7 (s : Store) {ws : List Str} (h1 : ¬ ws.headD [] = wPut) (h2 : ¬ ws.headD [] = wFall) (h3 : ¬ ws.headD [] = wFlush) (h4 : ¬ ws.headD [] = wFill) (h5 : ¬ ws.headD [] = wAll) (h6 : ¬ ws.headD [] = wSee) (h : ws.headD [] = wDisk) : wordsDo s ws = (s,numsS wDisk s.disk):=by unfold wordsDo;rw [if_neg h1,if_neg h2,if_neg h3,if_neg h4,if_neg h5,if_neg h6,if_pos h]
theorem wd8 (s : Store) {ws : List Str} (h1 : ¬ ws.headD [] = wPut) (h2 : ¬ ws.headD [] = wFall) (h3 : ¬ ws.headD [] = wFlush) (h4 : ¬ ws.headD [] = wFill) (h5 : ¬ ws.headD [] = wAll) (h6 : ¬ ws.headD [] = wSee) (h7 : ¬ ws.headD [] = wDisk) (h : ws.headD [] = wDirty) : wordsDo s ws = (s,numsS wDirty (dirtyL s)):=by unfold wordsDo;rw [if_neg h1,if_neg h2,if_neg h3,if_neg h4,if_neg h5,if_neg h6,if_neg h7,if_pos h]
theorem wd9 (s : Store) {ws : List Str} (h1 : ¬ ws.headD [] = wPut) (h2 : ¬ ws.headD [] = wFall) (h3 : ¬ ws.headD [] = wFlush) (h4 : ¬ ws.headD [] = wFill) (h5 : ¬ ws.headD [] = wAll) (h6 : ¬ ws.headD [] = wSee) (h7 : ¬ ws.headD [] = wDisk) (h8 : ¬ ws.headD [] = wDirty) : wordsDo s ws = (s,wWhat):=by unfold wordsDo;rw [if_neg h1,if_neg h2,if_neg h3,if_neg h4,if_neg h5,if_neg h6,if_neg h7,if_neg h8]
theorem words_cases {P : Store × Str → Prop} {s : Store} {ws : List Str} (h1 : ws.headD [] = wPut → P (playDoS s (evPut ws),[])) (h2 : ws.headD [] = wFall → P (playDoS s (evFall ws),[])) (h3 : ws.headD [] = wFlush → P (playDoS s (evFlush ws),[]))
  (h4 : ws.headD [] = wFill → P (playDoS s (evFill ws),[])) (h5 : P (playAllS s,[])) (h6 : ∀ o,P (s,o)) : P (wordsDo s ws):=by
 unfold wordsDo
 by_cases c1 : ws.headD [] = wPut
 ·rw [if_pos c1];exact h1 c1
 rw [if_neg c1]
 by_cases c2 : ws.headD [] = wFall
 ·rw [if_pos c2];exact h2 c2
 rw [if_neg c2]
 by_cases c3 : ws.headD [] = wFlush
 ·rw [if_pos c3];exact h3 c3
 rw [if_neg c3]
 by_cases c4 : ws.headD [] = wFill
 ·rw [if_pos c4];exact h4 c4
 rw [if_neg c4]
 by_cases c5 : ws.headD [] = wAll
 ·rw [if_pos c5];exact h5
 rw [if_neg c5]
 by_cases c6 : ws.headD [] = wSee
 ·rw [if_pos c6];exact h6 _
 rw [if_neg c6]
 by_cases c7 : ws.headD [] = wDisk
 ·rw [if_pos c7];exact h6 _
 rw [if_neg c7]
 by_cases c8 : ws.headD [] = wDirty
 ·rw [if_pos c8];exact h6 _
 ·rw [if_neg c8];exact h6 _
theorem wordsDo_ok {s : Store} (h : storeOkB s = true) (ws : List Str) : storeOkB (wordsDo s ws).1 = true:=
 have ha : storeOkB (playAllS s) = true:=storeOk_playAll h
 words_cases (P:=fun r=>storeOkB r.1 = true) (fun _=>storeOk_play h _) (fun _=>storeOk_play h _) (fun _=>storeOk_play h _) (fun _=>storeOk_play h _) (by dsimp only;exact ha) (fun _=>by dsimp only;exact h)
theorem lineDo_ok {s : Store} (h : storeOkB s = true) (l : Str) : storeOkB (lineDo s l).1 = true:=wordsDo_ok h _
theorem linesDo_ok : ∀ (ls : List Str) (r : Store × Str),storeOkB r.1 = true → storeOkB (linesDo r ls).1 = true
 | [],r,h=>h
 | l :: ls,r,h=>linesDo_ok ls (stepL r l) (lineDo_ok h l)
theorem linesDo_app (r : Store × Str) (a b : List Str) : linesDo r (a ++ b) = linesDo (linesDo r a) b:=by unfold linesDo;rw [List.foldl_append]
theorem linesDo_snoc (r : Store × Str) (a : List Str) (l : Str) : linesDo r (a ++ [l]) = stepL (linesDo r a) l:=by rw [linesDo_app];rfl
end Go.Bu
namespace Go.Bu
open Go Go.RowKit Go.Plan Go.Proofs
def wornF (f : List Block) : Int:=(f.map fun b=>b.worn).sum
def psi (f : List Block) : Int:=4 * wornF f - cleanF f
def phi (f : List Block) : Int:=psi f + dirtyN f
theorem wornF_set : ∀ (f : List Block) (i : Nat) (hi : i < f.length) (b : Block),wornF (f.set i b) + f[i].worn = wornF f + b.worn
 | [],_,hi,_=>by simp at hi
 | x :: f,0,_,b=>by unfold wornF;simp;omega
 | x :: f,i + 1,hi,b=>by
  have:=wornF_set f i (by simpa using hi) b
  unfold wornF at this ⊢
  simp only [List.set_cons_succ,List.map_cons,List.sum_cons,List.getElem_cons_succ] at this ⊢
  omega
theorem psi_set (f : List Block) (i : Nat) (hi : i < f.length) (b : Block) : psi (f.set i b) = psi f + 4 * (b.worn - f[i].worn) - (cleanN b.pages - cleanN f[i].pages):=by
 have:=wornF_set f i hi b
 have:=cleanF_set f i hi b
 unfold psi;omega
theorem next_le {f g : List Block} (hf : FlashOk f) (hg : FlashOk g) (h : ∀ n ∈ seqs g,n ∈ seqs f) : next g ≤ next f:=by
 have h0 : 0 ≤ maxSeq f:=(maxSeq_bd (flashOk_iff.2 hf)).1
 have:=maxSeq_le hg h0 fun n hn=>by have:=seq_next hf n (h n hn);unfold next at this;omega
 unfold next;omega
theorem dirty_le {f g : List Block} (h : ∀ a,dirtyF g a = true → dirtyF f a = true) : dirtyN g ≤ dirtyN f:=
 List.countP_mono_left fun n _ hn=>h _ hn
theorem write_block_t {f : List Block} (h : FlashOk f) {i : Nat} (hi : i < f.length) (hc : cleanN f[i].pages ≠ 0) {r : Rec} (hs : r.seq ∉ seqs f) (t : Bool) :
  ∃ b',writeF f i r t = f.set i b' ∧ b'.worn = f[i].worn ∧ cleanN b'.pages + 1 = cleanN f[i].pages:=by
 have hbl:=h.blocks _ (List.getElem_mem hi)
 obtain ⟨f1,f2,f3,f4⟩:=blockB_free hbl
 have h4:=(blockB_iff.1 hbl).1
 have hu : seqUsed f r.seq = false:=by
  cases e : seqUsed f r.seq with
  | false=>rfl
  | true=>exact absurd (seqUsed_iff.1 e) hs
 unfold writeF writeOk
 rw [blockAt_get hi,hu,decide_eq_false hc]
 refine ⟨_,if_pos rfl,rfl,?_⟩
 have hk : 4 - (cleanN f[i].pages).toNat < f[i].pages.length:=by omega
 generalize hK : 4 - (cleanN f[i].pages).toNat = k at *
 have h0 : (f[i].pages[k]).state = 0:=f2 _ (by rw [List.drop_eq_getElem_cons hk];exact List.mem_cons_self)
 dsimp only
 rw [set_at _ _ hk,cleanN_append,show pageW r t :: f[i].pages.drop (k + 1) = [pageW r t] ++ f[i].pages.drop (k + 1) from rfl,cleanN_append,cleanN_one]
 have e2:=split_at f[i].pages k hk
 have e3 : cleanN f[i].pages = cleanN (f[i].pages.take k) + (1 + cleanN (f[i].pages.drop (k + 1))):=by
  conv=>lhs;rw [e2]
  rw [cleanN_append,show f[i].pages[k] :: f[i].pages.drop (k + 1) = [f[i].pages[k]] ++ f[i].pages.drop (k + 1) from rfl,cleanN_append,cleanN_one,if_pos h0]
 rw [e3]
 have : (pageW r t).state ≠ 0:=by cases t <;> (intro h;cases h)
 rw [if_neg this]
 omega
structure Paid (f g : List Block) (d : Int) : Prop where
 phi : phi g ≤ phi f + d
 nxt : next g - psi g ≤ next f - psi f
theorem Paid.refl (f : List Block) : Paid f f 0:=⟨by omega,Int.le_refl _⟩
theorem Paid.mono {f g : List Block} {d e : Int} (h : Paid f g d) (he : d ≤ e) : Paid f g e:=⟨by have:=h.phi;omega,h.nxt⟩
theorem Paid.trans {f g k : List Block} {d e : Int} (h : Paid f g d) (h2 : Paid g k e) : Paid f k (d + e):=⟨by have:=h.phi;have:=h2.phi;omega,by have:=h.nxt;have:=h2.nxt;omega⟩
theorem wipe_psi {f : List Block} (h : Ord f) (ho : (openB f).2 = false) (hc : (room f).2.2 = true) (t : Bool) : psi (wipeF f (old f) t) = psi f + (if t then 4 else 0):=by
 have hol:=old4 h
 have h0:=openB_no h.ok ho _ (List.getElem_mem hol)
 have hw:=room_worn ho hc
 rw [blockAt_get hol] at hw
 unfold wipeF
 rw [blockAt_get hol,if_neg (by omega),psi_set _ _ hol,h0]
 cases t
 ·have : cleanN (List.replicate 4 (blank (tornSt false))) = 4:=by decide
  rw [this];simp;omega
 ·have : cleanN (List.replicate 4 (blank (tornSt true))) = 0:=by decide
  rw [this];simp;omega
theorem wipe_dirty {f : List Block} (h : Ord f) (ho : (openB f).2 = false) (hc : (room f).2.2 = true) (t : Bool) : dirtyN (wipeF f (old f) t) ≤ dirtyN f:=dirty_le fun a ha=>by
 rcases last_wipe h (shut h ho) (room_worn ho hc) t a with ⟨_,e⟩ | ⟨_,e⟩
 ·unfold dirtyF at ha;rw [e] at ha;exact absurd ha (by decide)
 ·unfold dirtyF at ha ⊢;rwa [e] at ha
theorem wipe_next {f : List Block} (h : Ord f) (ho : (openB f).2 = false) (hc : (room f).2.2 = true) (t : Bool) : next (wipeF f (old f) t) ≤ next f:=by
 refine next_le h.ok (h.wipe (old4 h) (shut h ho) t).ok fun n hn=>?_
 obtain ⟨b',e,_,h2,_,_⟩:=wipe_get (f:=f) (old4 h) (room_worn ho hc) t
 rw [e] at hn
 obtain ⟨c,hcm,hcn⟩:=mem_seqs.1 hn
 rcases mem_set hcm with hcm | rfl
 ·exact mem_seqs.2 ⟨c,hcm,hcn⟩
 ·obtain ⟨p,hp,q1,q2⟩:=hcn
  exact absurd ⟨p,hp,q1,rfl⟩ (h2 p.r)
theorem paid_wipe {f : List Block} (h : Ord f) (ho : (openB f).2 = false) (hc : (room f).2.2 = true) (t : Bool) : Paid f (wipeF f (old f) t) (if t then 4 else 0):=by
 have:=wipe_psi h ho hc t
 have:=wipe_dirty h ho hc t
 have:=wipe_next h ho hc t
 refine ⟨?_,?_⟩
 ·unfold phi;omega
 ·cases t <;> simp at * <;> omega
theorem paid_room {f : List Block} (h : Ord f) (hc : (room f).2.2 = true) : Paid f (roomF f) 0:=by
 by_cases ho : (openB f).2 = true
 ·unfold roomF;rw [if_pos ho];exact Paid.refl f
 ·have ho' : (openB f).2 = false:=by simpa using ho
  unfold roomF;rw [if_neg ho]
  exact paid_wipe h ho' hc false
theorem wrote_psi {f : List Block} (h : Ord f) {k a v : Int} (hne : writeSteps f k a v ≠ []) (t : Bool) : psi (writeF (roomF f) (room f).2.1.toNat ⟨k,next f,a,v⟩ t) = psi (roomF f) + 1:=by
 obtain ⟨hc,hr,_⟩:=write_some hne
 have hR:=roomy h hc
 obtain ⟨b,hb,hb0⟩:=hR.opn.at_
 obtain ⟨hl,rfl⟩:=List.getElem?_eq_some_iff.1 hb
 obtain ⟨b',e,e1,e2⟩:=write_block_t (r:=⟨k,next f,a,v⟩) hR.ord.ok hl hb0 (fun hs=>by have:=seq_next h.ok _ (hR.sub _ hs);dsimp only at this;omega) t
 rw [e,psi_set _ _ hl]
 omega
theorem paid_torn {f : List Block} (h : Ord f) {k a v : Int} (hne : writeSteps f k a v ≠ []) : Paid f (writeF (roomF f) (room f).2.1.toNat ⟨k,next f,a,v⟩ true) 1:=by
 obtain ⟨hc,hr,_⟩:=write_some hne
 have hR:=roomy h hc
 obtain ⟨b,hb,hb0⟩:=hR.opn.at_
 have hp:=paid_room h hc
 have e1:=wrote_psi h hne true
 have hnew : ∀ n ∈ seqs (roomF f),n < (⟨k,next f,a,v⟩ : Rec).seq:=fun n hn=>seq_next h.ok n (hR.sub n hn)
 have hd : dirtyN (writeF (roomF f) (room f).2.1.toNat ⟨k,next f,a,v⟩ true) ≤ dirtyN (roomF f):=dirty_le fun a' ha=>by
  have:=(last_write hR.ord.ok hb hb0 hr hnew a').1
  unfold dirtyF at ha ⊢;rwa [this] at ha
 have hn : next (writeF (roomF f) (room f).2.1.toNat ⟨k,next f,a,v⟩ true) ≤ next (roomF f):=by
  refine next_le hR.ord.ok (hR.ord.write hR.opn hr hnew true).ok fun n hn=>?_
  obtain ⟨b',e,hs,_⟩:=write_get (r:=⟨k,next f,a,v⟩) hR.ord.ok hb hb0 (fun hs=>by have:=hnew _ hs;omega) true
  obtain ⟨hl,rfl⟩:=List.getElem?_eq_some_iff.1 hb
  rw [e,seqs_set _ _ hl] at hn
  rw [seqs_at _ _ hl]
  simp only [List.mem_append] at hn ⊢
  rcases hn with hn | hn | hn
  ·exact .inl hn
  ·rcases (hs n).1 hn with hn | ⟨h0,_⟩
   ·exact .inr (.inl hn)
   ·cases h0
  ·exact .inr (.inr hn)
 have p1:=hp.phi
 have p2:=hp.nxt
 refine ⟨?_,by omega⟩
 unfold phi at *;omega
theorem paid_wrote {f : List Block} (h : Ord f) {k a v : Int} (hne : writeSteps f k a v ≠ []) : Paid f (wroteF f k a v) (if k = 1 then 2 else 1):=by
 obtain ⟨hc,hr,_⟩:=write_some hne
 have hR:=roomy h hc
 have hp:=paid_room h hc
 have e1 : psi (wroteF f k a v) = psi (roomF f) + 1:=wrote_psi h hne false
 have hn:=wrote_next h hne
 have hd : (dirtyN (wroteF f k a v) : Int) ≤ dirtyN (roomF f) + (if k = 1 then 1 else 0):=by
  by_cases hk : k = 1
  ·have:=dirty_put h hne;rw [if_pos hk];omega
  ·have:=dirty_clean h hne hk;rw [if_neg hk];split at this <;> omega
 have hrn : psi (roomF f) = psi f:=by
  by_cases ho : (openB f).2 = true
  ·unfold roomF;rw [if_pos ho]
  ·have ho' : (openB f).2 = false:=by simpa using ho
   unfold roomF;rw [if_neg ho,wipe_psi h ho' hc];simp
 have p1:=hp.phi
 refine ⟨?_,?_⟩
 ·unfold phi at *
  by_cases hk : k = 1
  ·rw [if_pos hk] at hd ⊢;omega
  ·rw [if_neg hk] at hd ⊢;omega
 ·omega
def Via (P : List Block → Prop) : Store → List Step → Prop
 | s,[]=>P s.flash
 | s,x :: xs=>P s.flash ∧ P (doStep s x true).flash ∧ Via P (doStep s x false) xs
theorem Via.here {P : List Block → Prop} : ∀ {xs : List Step} {s : Store},Via P s xs → P s.flash
 | [],_,h=>h
 | _ :: _,_,h=>h.1
theorem Via.to {P : List Block → Prop} : ∀ {xs : List Step} {s : Store},Via P s xs → ∀ (n : Nat) (t : Bool),P (if t = true ∧ n < xs.length then doStep (doAll s (xs.take n)) ((xs[n]?).getD ⟨0,0,0,0,rec0⟩) true else doAll s (xs.take n)).flash
 | [],s,h,n,t=>by simp only [List.length_nil,Nat.not_lt_zero,and_false,if_false,List.take_nil];exact h
 | x :: xs,s,h,0,t=>by
  cases t
  ·exact h.1
  ·exact h.2.1
 | x :: xs,s,h,n + 1,t=>by
  have:=Via.to h.2.2 n t
  simp only [List.length_cons,Nat.succ_lt_succ_iff,List.take_succ_cons,List.getElem?_cons_succ]
  exact this
theorem Via.toSteps {P : List Block → Prop} {xs : List Step} {s : Store} (h : Via P s xs) (cut : Int) (t : Bool) : P (toSteps s xs cut t).flash:=by
 unfold Bu.toSteps
 have:=h.to cut.toNat t
 by_cases hc : 0 ≤ cut
 ·by_cases hl : cut.toNat < xs.length
  ·have e : decide (cut < (xs.length : Int)) = true:=decide_eq_true (by omega)
   rw [e,decide_eq_true hc]
   cases t
   ·rw [if_neg (by simp)] at this ⊢;exact this
   ·rw [if_pos ⟨rfl,hl⟩] at this
    rw [if_pos (show (true && true && true) = true from rfl)];exact this
  ·have e : decide (cut < (xs.length : Int)) = false:=decide_eq_false (by omega)
   rw [e,if_neg (by simp)]
   rw [if_neg (fun h=>hl h.2)] at this;exact this
 ·rw [decide_eq_false hc,if_neg (by simp),show cut.toNat = 0 by omega]
  exact h.here
theorem via_disks {P : List Block → Prop} (rest : List Step) : ∀ (ds : List Step),(∀ x ∈ ds,x.kind = 1) → ∀ s : Store,P s.flash → (∀ t : Store,t.flash = s.flash → Via P t rest) → Via P s (ds ++ rest)
 | [],_,s,_,h=>h s rfl
 | x :: ds,hd,s,h0,h=>by
  have e1:=tell_flash s x true (hd x (by simp))
  have e2:=tell_flash s x false (hd x (by simp))
  refine ⟨h0,by rw [e1];exact h0,via_disks rest ds (fun y hy=>hd y (by simp [hy])) _ (by rw [e2];exact h0) fun t ht=>h t (by rw [ht,e2])⟩
theorem via_write {P : List Block → Prop} {s : Store} (k a v : Int) (p0 : P s.flash) (p1 : writeSteps s.flash k a v ≠ [] → (openB s.flash).2 = false → P (wipeF s.flash (old s.flash) true))
  (p2 : writeSteps s.flash k a v ≠ [] → P (roomF s.flash)) (p3 : writeSteps s.flash k a v ≠ [] → P (writeF (roomF s.flash) (room s.flash).2.1.toNat ⟨k,next s.flash,a,v⟩ true)) (p4 : writeSteps s.flash k a v ≠ [] → P (wroteF s.flash k a v)) :
  Via P s (writeSteps s.flash k a v):=by
 by_cases hne : writeSteps s.flash k a v = []
 ·rw [hne];exact p0
 replace p1:=p1 hne;replace p2:=p2 hne;replace p3:=p3 hne;replace p4:=p4 hne
 obtain ⟨hc,hr,e⟩:=write_some hne
 rw [e]
 have hwr : ∀ t : Store,t.flash = roomF s.flash → Via P t [⟨3,0,0,(room s.flash).2.1,⟨k,next s.flash,a,v⟩⟩]:=by
  intro t ht
  have e3 : ∀ b : Bool,(doStep t ⟨3,0,0,(room s.flash).2.1,⟨k,next s.flash,a,v⟩⟩ b).flash = writeF (roomF s.flash) (room s.flash).2.1.toNat ⟨k,next s.flash,a,v⟩ b:=by
   intro b;unfold doStep;dsimp only;rw [if_neg (by decide),if_neg (by decide),if_pos rfl,ht]
  exact ⟨by rw [ht];exact p2,by rw [e3];exact p3,by show P _;rw [e3];exact p4⟩
 by_cases ho : (openB s.flash).2 = true
 ·have e1 : (room s.flash).1 = []:=by unfold room;rw [if_pos ho]
  rw [e1,List.nil_append]
  exact hwr s (by unfold roomF;rw [if_pos ho])
 ·have ho' : (openB s.flash).2 = false:=by simpa using ho
  have e1 : (room s.flash).1 = roomSteps s.flash (blockAt s.flash (old s.flash)).pages ++ [⟨2,0,0,(old s.flash : Int),rec0⟩]:=by unfold room;rw [if_neg ho]
  rw [e1,List.append_assoc]
  refine via_disks _ _ (room_kinds s.flash _) s p0 fun t ht=>?_
  have e3 : ∀ b : Bool,(doStep t ⟨2,0,0,(old s.flash : Int),rec0⟩ b).flash = wipeF s.flash (old s.flash) b:=by
   intro b;unfold doStep;dsimp only;rw [if_neg (by decide),if_pos rfl,Int.toNat_natCast,ht]
  refine ⟨by rw [ht];exact p0,by rw [e3];exact p1 ho',hwr _ ?_⟩
  rw [e3];unfold roomF;rw [if_neg ho]
theorem paid_via {s : Store} (h : Ord s.flash) (k a v cut : Int) (t : Bool) : Paid s.flash (toSteps s (writeSteps s.flash k a v) cut t).flash 4:=by
 refine Via.toSteps (P:=fun g=>Paid s.flash g 4) (via_write k a v ?_ ?_ ?_ ?_ ?_) cut t
 ·exact (Paid.refl _).mono (by decide)
 ·exact fun hne ho=>(paid_wipe h ho (write_some hne).1 true).mono (by decide)
 ·exact fun hne=>(paid_room h (write_some hne).1).mono (by decide)
 ·exact fun hne=>(paid_torn h hne).mono (by decide)
 ·exact fun hne=>(paid_wrote h hne).mono (by split <;> decide)
theorem paid_whole {s : Store} (h : Ord s.flash) (k a v : Int) : Paid s.flash (doAll s (writeSteps s.flash k a v)).flash (if k = 1 then 2 else 1):=by
 by_cases hne : writeSteps s.flash k a v = []
 ·rw [hne];exact (Paid.refl _).mono (by split <;> decide)
 ·rw [write_do hne];exact paid_wrote h hne
theorem flush_do {s : Store} {n : Nat} (hne : flushSteps s n ≠ []) : ∃ v,dirtyB s ((n : Int) + 1) = true ∧ writeSteps s.flash 2 ((n : Int) + 1) v ≠ [] ∧ (allStep s n).flash = wroteF s.flash 2 ((n : Int) + 1) v:=by
 have hne':=hne
 unfold flushSteps at hne
 by_cases hd : dirtyB s ((n : Int) + 1) = true
 ·rw [if_pos hd] at hne
  by_cases hw : writeSteps s.flash 2 ((n : Int) + 1) (readN s n) = []
  ·rw [if_pos hw] at hne;exact absurd rfl hne
  ·refine ⟨_,hd,hw,?_⟩
   unfold allStep flushSteps
   rw [if_pos hd,if_neg hw]
   show (doAll (doStep s _ false) _).flash = _
   have e:=tell_flash s ⟨1,(n : Int) + 1,readN s n,0,rec0⟩ false rfl
   have:=write_do (s:=doStep s ⟨1,(n : Int) + 1,readN s n,0,rec0⟩ false) (k:=2) (a:=(n : Int) + 1) (v:=readN s n) (by rw [e];exact hw)
   rw [e] at this
   exact this
 ·rw [if_neg hd] at hne;exact absurd rfl hne
theorem paid_flush {s : Store} (h : Ord s.flash) (n : Nat) : Paid s.flash (allStep s n).flash 0:=by
 by_cases hne : flushSteps s n = []
 ·unfold allStep;rw [hne];exact Paid.refl _
 ·obtain ⟨v,hd,hw,e⟩:=flush_do hne
  have hp:=paid_wrote h hw
  have hf:=(flush_paid h n).2
  have h0 : 1 ≤ (costOf (flushSteps s n)).disks:=by
   have hc:=cost_write h hw
   unfold flushSteps at hne ⊢
   rw [if_pos hd] at hne ⊢
   by_cases hw2 : writeSteps s.flash 2 ((n : Int) + 1) (readN s n) = []
   ·rw [if_pos hw2] at hne;exact absurd rfl hne
   ·rw [if_neg hw2]
    have hc2:=cost_write h hw2
    rw [show (⟨1,(n : Int) + 1,readN s n,0,rec0⟩ :: writeSteps s.flash 2 ((n : Int) + 1) (readN s n)) = [⟨1,(n : Int) + 1,readN s n,0,rec0⟩] ++ writeSteps s.flash 2 ((n : Int) + 1) (readN s n) from rfl,costOf_app]
    show 1 ≤ (0 + 1 : Int) + _
    omega
  rw [e] at hf ⊢
  have p1:=wrote_psi h hw false
  have hrn:=hp.phi
  refine ⟨?_,hp.nxt⟩
  rw [if_neg (by decide)] at hrn
  have hc:=(write_some hw).1
  have hr:=(paid_room h hc)
  have hrp : psi (roomF s.flash) = psi s.flash:=by
   by_cases ho : (openB s.flash).2 = true
   ·unfold roomF;rw [if_pos ho]
   ·have ho' : (openB s.flash).2 = false:=by simpa using ho
    unfold roomF;rw [if_neg ho,wipe_psi h ho' hc];simp
  unfold phi
  show psi (writeF _ _ _ false) + _ ≤ _
  omega
theorem paid_flushes : ∀ (L : List Nat) (s : Store),storeOkB s = true → (∀ n ∈ L,n < 6) → Paid s.flash (L.foldl allStep s).flash 0
 | [],s,_,_=>Paid.refl _
 | n :: L,s,h,hL=>by
  have h1:=paid_flush (storeOk_iff.1 h).ord n
  have h2:=paid_flushes L (allStep s n) (storeOk_flush h (hL n (by simp))) fun m hm=>hL m (by simp [hm])
  exact h1.trans h2
theorem toSteps_nil (s : Store) (cut : Int) (t : Bool) : toSteps s [] cut t = s:=by
 unfold toSteps
 rw [if_neg (by simp),List.take_nil];rfl
theorem addr_some {g : Nat → List Step} {a : Int} (h : addrStep g a ≠ []) : ∃ n : Nat,n < 6 ∧ a = (n : Int) + 1 ∧ addrStep g a = g n:=by
 unfold addrStep at h ⊢
 by_cases hi : inB a 1 6 = true
 ·rw [if_pos hi]
  have:=inB_iff.1 hi
  exact ⟨(a - 1).toNat,by omega,by omega,rfl⟩
 ·rw [if_neg hi] at h;exact absurd rfl h
theorem paid_ev2 {s : Store} (h : storeOkB s = true) (a b : Int) : Paid s.flash (playDoS s ⟨2,a,b,60,false⟩).flash 0:=by
 have e : playDoS s ⟨2,a,b,60,false⟩ = doAll s (addrStep (flushSteps s) a):=do_whole h ⟨2,a,b,0,false⟩ (by dsimp only;omega)
 rw [e]
 by_cases hne : addrStep (flushSteps s) a = []
 ·rw [hne];exact Paid.refl _
 ·obtain ⟨n,hn,rfl,e2⟩:=addr_some hne
  rw [e2];exact paid_flush (storeOk_iff.1 h).ord n
theorem paid_ev3 {s : Store} (h : storeOkB s = true) (a b : Int) : Paid s.flash (playDoS s ⟨3,a,b,60,false⟩).flash 1:=by
 have e : playDoS s ⟨3,a,b,60,false⟩ = doAll s (addrStep (fillSteps s) a):=do_whole h ⟨3,a,b,0,false⟩ (by dsimp only;omega)
 rw [e]
 by_cases hne : addrStep (fillSteps s) a = []
 ·rw [hne];exact (Paid.refl _).mono (by decide)
 ·obtain ⟨n,hn,rfl,e2⟩:=addr_some hne
  rw [e2]
  unfold fillSteps
  split
  ·exact (Paid.refl _).mono (by decide)
  ·exact paid_whole (storeOk_iff.1 h).ord 2 _ _
theorem write_none (f : List Block) (k a v : Int) (h : ¬ ((1 ≤ a ∧ a ≤ 6) ∧ 0 ≤ v ∧ v ≤ 9)) : writeSteps f k a v = []:=by
 by_cases hne : writeSteps f k a v = []
 ·exact hne
 ·have:=recOkB_iff.1 (write_some hne).2.1
  exact absurd ⟨this.2.2.1,this.2.2.2⟩ h
theorem numB_len {s : Str} (h : 0 ≤ numB s) : 1 ≤ s.length:=by
 unfold numB at h
 split at h
 ·exact absurd h (by decide)
 ·omega
theorem atS_len {ws : List Str} {k : Nat} (h : 0 ≤ atS ws k) : ∃ x,ws[k]? = some x ∧ 1 ≤ x.length:=by
 unfold atS at h
 split at h
 ·exact ⟨_,‹_›,numB_len h⟩
 ·exact absurd h (by decide)
theorem sizeL_cons (x : Str) (ws : List Str) : sizeL (x :: ws) = x.length + 1 + sizeL ws:=by unfold sizeL;simp
theorem put_size {ws : List Str} {n : Nat} (h0 : (ws.headD []).length = n) (hn : ws.headD [] ≠ []) (h1 : 0 ≤ atS ws 1) (h2 : 0 ≤ atS ws 2) : n + 5 ≤ sizeL ws:=by
 obtain ⟨x,hx,hl⟩:=atS_len h1
 obtain ⟨y,hy,hm⟩:=atS_len h2
 match ws,hx,hy,h0 with
 | w :: x' :: y' :: r,hx,hy,h0 =>
  simp at hx hy h0
  subst hx hy
  rw [sizeL_cons,sizeL_cons,sizeL_cons];omega
theorem one_size {ws : List Str} {n : Nat} (h0 : (ws.headD []).length = n) (h1 : 0 ≤ atS ws 1) : n + 3 ≤ sizeL ws:=by
 obtain ⟨x,hx,hl⟩:=atS_len h1
 match ws,hx,h0 with
 | w :: x' :: r,hx,h0 =>
  simp at hx h0
  subst hx
  rw [sizeL_cons,sizeL_cons];omega
theorem words_paid {s : Store} (h : storeOkB s = true) (ws : List Str) : ∃ d : Int,Paid s.flash (wordsDo s ws).1.flash d ∧ 2 * d ≤ sizeL ws:=by
 have hz : ∃ d : Int,Paid s.flash s.flash d ∧ 2 * d ≤ sizeL ws:=⟨0,Paid.refl _,by omega⟩
 have hput : ∀ (c : Int) (t : Bool) (w : Str),ws.headD [] = w → 3 ≤ w.length → ∃ d : Int,Paid s.flash (playDoS s ⟨1,atS ws 1,atS ws 2,c,t⟩).flash d ∧ 2 * d ≤ sizeL ws:=by
  intro c t w hw hl
  by_cases hv : (1 ≤ atS ws 1 ∧ atS ws 1 ≤ 6) ∧ 0 ≤ atS ws 2 ∧ atS ws 2 ≤ 9
  ·have:=put_size (ws:=ws) rfl (by rw [hw];intro e;rw [e] at hl;exact absurd hl (by decide)) (by omega) (by omega)
   rw [hw] at this
   refine ⟨4,?_,by omega⟩
   unfold playDoS
   rw [if_neg (by dsimp only;omega)]
   split
   ·exact (Paid.refl _).mono (by decide)
   ·exact paid_via (storeOk_iff.1 h).ord 1 _ _ _ _
  ·refine ⟨0,?_,by omega⟩
   unfold playDoS
   rw [if_neg (by dsimp only;omega)]
   have : playSteps s ⟨1,atS ws 1,atS ws 2,c,t⟩ = []:=by
    show writeSteps s.flash 1 (atS ws 1) (atS ws 2) = []
    exact write_none _ _ _ _ hv
   rw [this,toSteps_nil]
   split <;> exact Paid.refl _
 refine words_cases (P:=fun r=>∃ d : Int,Paid s.flash r.1.flash d ∧ 2 * d ≤ sizeL ws) (fun hw=>hput _ _ _ hw (by decide)) (fun hw=>hput _ _ _ hw (by decide)) (fun _=>⟨0,paid_ev2 h _ _,by omega⟩) (fun hw=>?_) (by dsimp only;exact ⟨0,paid_flushes addrs6 s h (by decide),by omega⟩) (fun _=>by dsimp only;exact hz)
 by_cases ha : 0 ≤ atS ws 1
 ·have:=one_size (ws:=ws) rfl ha
  rw [hw] at this
  exact ⟨1,paid_ev3 h _ _,by have : (4 : Nat) + 3 ≤ sizeL ws:=this;omega⟩
 ·refine ⟨0,?_,by omega⟩
  have e : playSteps s (evFill ws) = []:=by
   show addrStep (fillSteps s) (atS ws 1) = []
   unfold addrStep
   rw [if_neg]
   intro hi
   have:=inB_iff.1 hi
   omega
  unfold playDoS
  rw [if_neg (show ¬ (evFill ws).kind = 4 from by unfold evFill;dsimp only;omega),e,toSteps_nil]
  split <;> exact Paid.refl _
theorem lines_paid : ∀ (ls : List Str) (r : Store × Str),storeOkB r.1 = true → ∃ d : Int,Paid r.1.flash (linesDo r ls).1.flash d ∧ 2 * d ≤ sizeL ls
 | [],r,h=>⟨0,Paid.refl _,by decide⟩
 | l :: ls,r,h=>by
  obtain ⟨d,h1,h2⟩:=words_paid h (cut 32 l)
  obtain ⟨e,h3,h4⟩:=lines_paid ls (stepL r l) (lineDo_ok h l)
  rw [cut_size] at h2
  exact ⟨d + e,h1.trans h3,by rw [sizeL_cons];omega⟩
theorem wornF_ge : ∀ (f : List Block),(∀ b ∈ f,0 ≤ b.worn) → 0 ≤ wornF f ∧ ∀ b ∈ f,b.worn ≤ wornF f
 | [],_=>⟨by decide,fun b hb=>by cases hb⟩
 | x :: f,h=>by
  obtain ⟨h0,h1⟩:=wornF_ge f fun b hb=>h b (by simp [hb])
  have hx:=h x (by simp)
  have e : wornF (x :: f) = x.worn + wornF f:=by unfold wornF;simp
  rw [e]
  refine ⟨by omega,fun b hb=>?_⟩
  rcases List.mem_cons.1 hb with rfl | hb
  ·omega
  ·have:=h1 b hb;omega
theorem sizeL_take (ls : List Str) (k : Nat) : sizeL (ls.take k) ≤ sizeL ls:=by
 conv=>rhs;rw [← List.take_append_drop k ls]
 unfold sizeL
 rw [List.map_append,List.sum_append];omega
theorem sizeL_last (ls : List Str) (h : ls ≠ []) : sizeL ls.dropLast + 1 ≤ sizeL ls:=by
 conv=>rhs;rw [← List.dropLast_concat_getLast h]
 unfold sizeL
 rw [List.map_append,List.sum_append];simp
theorem run_bound {ls : List Str} (hl : sizeL ls ≤ 600) : storeOkB (linesDo (newStore,[]) ls).1 = true ∧ (∀ b ∈ (linesDo (newStore,[]) ls).1.flash,0 ≤ b.worn ∧ b.worn ≤ 75) ∧ next (linesDo (newStore,[]) ls).1.flash ≤ 301:=by
 have hok:=linesDo_ok ls (newStore,[]) storeOk_new
 obtain ⟨d,h1,h2⟩:=lines_paid ls (newStore,[]) storeOk_new
 have e1 : phi newStore.flash = -16:=by decide +kernel
 have e2 : next newStore.flash - psi newStore.flash = 17:=by decide +kernel
 have p1:=h1.phi
 have p2:=h1.nxt
 rw [show ((newStore,[]) : Store × Str).1 = newStore from rfl,e1] at p1
 rw [show ((newStore,[]) : Store × Str).1 = newStore from rfl,e2] at p2
 have hc:=cleanF_16 hok
 have hF:=(storeOk_iff.1 hok).ord.ok
 have hw : ∀ b ∈ (linesDo (newStore,[]) ls).1.flash,0 ≤ b.worn:=fun b hb=>(blockB_iff.1 (hF.blocks b hb)).2.1
 obtain ⟨w0,w1⟩:=wornF_ge _ hw
 unfold phi at p1
 have : psi (linesDo (newStore,[]) ls).1.flash ≤ 284:=by omega
 refine ⟨hok,fun b hb=>⟨hw b hb,?_⟩,by omega⟩
 have:=w1 b hb
 unfold psi at *
 omega
theorem cut_lines {text : Str} (h : text.length ≤ 600) : sizeL (cut 10 text).dropLast ≤ 600:=by
 have:=sizeL_last _ (cut_ne 10 text)
 rw [cut_size] at this
 omega
end Go.Bu
namespace Go.Bu
open Go Go.RowKit Go.Plan Go.Proofs
theorem fold_pre {α : Type} (g : α → Str) : ∀ (xs : List α) (a b : Str),xs.foldl (fun s x=>s ++ g x) (a ++ b) = a ++ xs.foldl (fun s x=>s ++ g x) b
 | [],a,b=>rfl
 | x :: xs,a,b=>by rw [List.foldl_cons,List.foldl_cons,List.append_assoc,fold_pre g xs]
theorem pageS_len {p : Page} (h : PageT p) : (pageS p).length ≤ 8:=by
 rcases pageT_cases h with ⟨_,e⟩ | ⟨_,e⟩ | ⟨_,x,_,e,ha,hv⟩
 ·rw [e];decide
 ·rw [e];decide
 ·rw [e]
  have:=decI_len (n:=p.r.addr) ⟨by omega,by omega⟩
  have:=decI_len (n:=p.r.val) ⟨by omega,by omega⟩
  simp;omega
structure FlashT (f : List Block) : Prop where
 len : f.length ≤ 4
 pages : ∀ b ∈ f,b.pages.length ≤ 4
 page : ∀ b ∈ f,∀ p ∈ b.pages,PageT p
 worn : ∀ b ∈ f,0 ≤ b.worn ∧ b.worn < 100
def pgG (s : Str) (p : Page) : Str:=s ++ pageS p
def blG (s : Str) (b : Block) : Str:=s ++ blockS b
theorem blG_eq (s : Str) (b : Block) : blG s b = b.pages.foldl pgG (s ++ decI b.worn) ++ [10]:=by
 unfold blG blockS
 rw [← List.append_assoc,← fold_pre pageS];rfl
set_option maxRecDepth 20000 in
set_option maxHeartbeats 2000000 in
theorem l31Flash_c (v : Value) (f : List Block) (w : World) (h : Flash (Old w) w v f) (hT : FlashT f) : Calls Tryz.prog 48 #[v] w (Ret w (strV (flashS f))):=by
 have e : flashS f = f.foldl blG []:=rfl
 rw [e]
 obtain ⟨A,hA⟩ : ∃ A,f.foldl blG [] = A:=⟨_,rfl⟩
 rw [hA]
 have HA:=Lib.hid hA;clear hA e
 have HT:=Lib.hid hT;clear hT
 have HF:=Lib.hid h
 have hpg:=fun (p : Page) (hp : PageT p) (w' : World)=>l31Page_c p hp w'
 have HPG:=Lib.hid hpg;clear hpg
 obtain ⟨a,cap,rfl⟩:=h.form
 clear h
 have hlf:=HT.out.len
 go_enter Tryz.func48,Tryz.ntmps48
 go_wp2_with fail
 go_loopw [3,4] (fun r y wr=>∃ (k : Nat) (s : Str),k ≤ f.length ∧ y = .int .i64 (k : Int) ∧ r = strV s ∧ s.length ≤ 40 * k ∧ Hid ((f.drop k).foldl blG s = A) ∧ Ext w wr) (fun _ y _=>f.length - (intOf y).toNat)
 case atStart=>exact ⟨0,[],by omega,rfl,rfl,by simp,HA,ext_refl _⟩
 case round =>
  obtain ⟨k,s,hk,rfl,rfl,hsl,HR,hX⟩:=hrel
  by_cases hlt : k < f.length
  ·have hr:=HR.out
   rw [foldl_drop _ _ _ _ hlt,blG_eq] at hr
   have hmem:=List.getElem_mem hlt
   have hw:=HT.out.worn _ hmem
   have hpl:=HT.out.pages _ hmem
   have hpt:=HT.out.page _ hmem
   obtain ⟨b,o,pv,rfl,hb,hpp,h0,h1⟩:=(HF.out.ext hX).at2 hlt
   generalize f[k] = bk at *
   obtain ⟨ps,worn⟩:=bk
   dsimp only at *
   have hdl:=decI_len (n:=worn) ⟨by omega,by omega⟩
   have hdc:=l6Dec_i worn ⟨by omega,by omega⟩
   have ha1:=str_add (P:=Tryz.prog) s (decI worn) (by omega)
   obtain ⟨d,hd⟩ : ∃ d,decI worn = d:=⟨_,rfl⟩
   rw [hd] at hr ha1 hdl hdc
   have HPP:=Lib.hid hpp
   have HPT:=Lib.hid hpt
   have HH0:=Lib.hid h0
   obtain ⟨pa,pcap,rfl⟩:=hpp.form
   clear hpp hpt hd hw HR
   go_wp2_with fail
   refine (hdc _).mono ?_;rintro e1 w1 ⟨rfl,hx1⟩
   have X1:=ext_trans hX hx1
   have HX1:=Lib.hid hx1
   obtain ⟨hc1,hf1⟩:=bcell hx1
   have HR1 : Hid ((f.drop (k + 1)).foldl blG ((ps.drop 0).foldl pgG (s ++ d) ++ [10]) = A):=Lib.hid hr
   have hl1 : (s ++ d).length ≤ 40 * k + 3:=by simp;omega
   have HL1:=Lib.hid hl1
   clear hr hx1 hdc hX hl1
   go_wp2_with fail
   go_loopw [3,5] (fun r y wr=>∃ (j : Nat) (q : Str),j ≤ ps.length ∧ y = .int .i64 (j : Int) ∧ r = strV q ∧ q.length ≤ 40 * k + 3 + 8 * j ∧ Hid ((f.drop (k + 1)).foldl blG ((ps.drop j).foldl pgG q ++ [10]) = A) ∧ Ext w1 wr) (fun _ y _=>ps.length - (intOf y).toNat)
   case atStart=>exact ⟨0,_,by omega,rfl,rfl,by have:=HL1.out;omega,HR1,ext_refl _⟩
   case round =>
    clear HR1 HL1 ha1 h0 h1
    obtain ⟨j,q,hj,rfl,rfl,hql,HR,hX⟩:=hrel
    obtain ⟨hc,hf⟩:=bcell hX
    have h0:=cell_ext (ext_trans HX1.out hX) HH0.out
    by_cases hlj : j < ps.length
    ·have hr:=HR.out
     rw [foldl_drop _ _ _ _ hlj] at hr
     have hpo:=HPT.out _ (List.getElem_mem hlj)
     have hpc:=HPG.out _ hpo
     have hps:=pageS_len hpo
     obtain ⟨b2,o2,rfl,hb2,c0,c1,c2,c3,c4⟩:=(HPP.out.ext (ext_trans HX1.out hX)).at5 hlj
     generalize ps[j] = p at *
     have ha2:=str_add (P:=Tryz.prog) q (pageS p) (by omega)
     have hl2 : (q ++ pageS p).length ≤ 40 * k + 3 + 8 * (j + 1):=by simp;omega
     have HL2:=Lib.hid hl2
     have e2 : pgG q p = q ++ pageS p:=rfl
     rw [e2] at hr
     have HR2:=Lib.hid hr
     clear hr e2 hl2 hps hpo HR
     obtain ⟨st,rk,rs,ra,rv⟩:=p
     dsimp only [pageA] at *
     generalize pageS ⟨st,rk,rs,ra,rv⟩ = pp at *
     go_wp2_with fail
     refine (hpc _).mono ?_;rintro e3 w3 ⟨rfl,hx3⟩
     have X3:=ext_trans hX hx3
     go_wp2_with fail
     go_roundw
     case rel=>exact ⟨j + 1,_,by omega,by go_num,rfl,HL2.out,HR2,X3⟩
     case measure=>simp [intOf];omega
    ·obtain rfl : j = ps.length:=by omega
     have hr:=HR.out
     rw [List.drop_length,List.foldl_nil] at hr
     have HR2:=Lib.hid hr
     have ha2:=str_add (P:=Tryz.prog) q [10] (by simp;omega)
     have hl2 : (q ++ [10]).length ≤ 40 * (k + 1):=by simp;omega
     have HL2:=Lib.hid hl2
     have X3:=ext_trans X1 hX
     clear hr hl2
     go_wp2_with fail
     go_roundw
     case rel=>exact ⟨k + 1,_,by omega,by go_num,rfl,HL2.out,HR2,X3⟩
     case measure=>simp [intOf];omega
  ·obtain rfl : k = f.length:=by omega
   have hr:=HR.out
   rw [List.drop_length] at hr
   have hr2 : s = A:=hr
   subst hr2
   go_wp2_with fail
   go_ret
   exact ⟨rfl,hX⟩
theorem dirtyL_take (s : Store) (k : Nat) (h : k < 6) : ((addrs6.take (k + 1)).filter fun (n : Nat)=>dirtyB s ((n : Int) + 1)).map (fun (n : Nat)=>(n : Int) + 1) = ((addrs6.take k).filter fun (n : Nat)=>dirtyB s ((n : Int) + 1)).map (fun (n : Nat)=>(n : Int) + 1) ++ (if dirtyB s ((k : Int) + 1) = true then [(k : Int) + 1] else []):=by
 rw [← take_snoc addrs6 k (show k < addrs6.length from h),addrs6_get (show k < addrs6.length from h),List.filter_append,List.map_append]
 congr 1
 cases hd : dirtyB s ((k : Int) + 1) <;> simp [hd]
theorem dirtyL_len (s : Store) (k : Nat) (h : k ≤ 6) : (((addrs6.take k).filter fun (n : Nat)=>dirtyB s ((n : Int) + 1)).map (fun (n : Nat)=>(n : Int) + 1)).length ≤ 6:=by
 rw [List.length_map]
 refine Nat.le_trans (List.length_filter_le _ _) ?_
 rw [List.length_take];omega
def IntsQ (w : World) (xs : List Int) (e : Ending) (w' : World) : Prop:=∃ v,e = .returned v ∧ Ext w w' ∧ Ints (Old w') w' v xs
theorem IRow.ints {base : Nat} {w : World} {v : Value} {xs : List Int} (h : IRow base w v xs) : Ints (Old w) w v xs:=by
 by_cases h0 : xs = []
 ·subst h0
  obtain ⟨a,cap,hv⟩:=h.form
  exact ⟨a,cap,hv,fun i x hx=>by simp at hx⟩
 ·obtain ⟨B,_,hO⟩:=h.own h0
  exact hO.old
set_option maxRecDepth 20000 in
set_option maxHeartbeats 2000000 in
theorem specStoreDirty_c (fv dv : Value) (s : Store) (w : World) (h : StoreV w fv dv s) (hok : storeOkB s = true) : Calls Tryz.prog 49 #[.agg #[fv,dv]] w (IntsQ w (dirtyL s)):=by
 have hn:=(StoreV.small (w:=w) (f:=fv) (d:=dv) hok).1
 have hp:=(StoreV.small (w:=w) (f:=fv) (d:=dv) hok).2.1
 have hSO:=fun (w' : World) (hx : Ext w w')=>specStoreOk_c fv dv s w' (h.ext hx) hn
 have hLD:=fun (n : Int) (w' : World) (hx : Ext w w')=>l11Dirty_c fv dv s n w' (h.ext hx) hn hp
 rw [hok] at hSO
 obtain ⟨fa,fcap,rfl⟩:=h.1.form
 obtain ⟨da,dcap,rfl⟩:=h.2.form
 have HLD:=Lib.hid hLD
 clear hLD h hok
 have hq : dirtyL s = ((addrs6.take 6).filter fun (n : Nat)=>dirtyB s ((n : Int) + 1)).map (fun (n : Nat)=>(n : Int) + 1):=rfl
 rw [hq]
 have HTK:=Lib.hid fun (k : Nat) (h : k < 6)=>dirtyL_take s k h
 have HLN:=Lib.hid fun (k : Nat) (h : k ≤ 6)=>dirtyL_len s k h
 obtain ⟨DL,hDL⟩ : ∃ DL : Nat → List Int,∀ k,((addrs6.take k).filter fun (n : Nat)=>dirtyB s ((n : Int) + 1)).map (fun (n : Nat)=>(n : Int) + 1) = DL k:=⟨_,fun _=>rfl⟩
 have h00 : DL 0 = []:=by rw [← hDL];rfl
 simp only [hDL] at HTK HLN ⊢
 clear hDL hq
 go_enter Tryz.func49,Tryz.ntmps49
 go_wp2_with fail
 refine (hSO _ (ext_alloc (ext_alloc (ext_refl _) _) _)).mono ?_;rintro e1 w1 ⟨rfl,hx1⟩
 have X1:=ext_trans (ext_alloc (ext_alloc (ext_refl w) _) _) hx1
 have G1:=keep_ext hx1 (hg_alloc (hg_new (b:=w.heap.size) rfl))
 have G2:=keep_ext hx1 (hg_new (b:=w.heap.size + 1) (by simp))
 have hR0 : IRow w.heap.size w1 (.slice (some ⟨w.heap.size + 1,0,none⟩) 0 0) []:=IRow.empty G2 (by omega)
 clear hSO hx1
 go_wp2_with fail
 go_loopw [3,4] (fun v y wr=>∃ (k : Nat),k ≤ 6 ∧ y = .int .i64 ((k : Int) + 1) ∧ Ext w wr ∧ IRow w.heap.size wr v (DL k) ∧ wr.heap[w.heap.size]? = some (.cells #[.slice fa s.flash.length fcap,.slice da s.disk.length dcap] 42 (0,0))) (fun _ y _=>7 - (intOf y).toNat)
 case atStart=>exact ⟨0,by omega,rfl,X1,by rw [h00];exact hR0,G1⟩
 case round =>
  clear hR0 G1 G2 X1 h00
  obtain ⟨k,hk,rfl,hX,hI,G1⟩:=hrel
  obtain ⟨g1,gf1⟩:=cellsK G1
  have l1:=heap_lt G1
  by_cases hlt : k < 6
  ·have HI:=Lib.hid hI
   have hst:=HTK.out k hlt
   have hln:=HLN.out k (by omega)
   have hld:=HLD.out ((k : Int) + 1) wr hX
   clear hI
   cases hdb : dirtyB s ((k : Int) + 1)
   ·rw [hdb,if_neg (by simp),List.append_nil] at hst
    rw [hdb] at hld
    have HST:=Lib.hid hst;clear hst hdb
    go_wp2_with fail
    refine hld.mono ?_;rintro e2 w2 ⟨rfl,hx2⟩
    have X2:=ext_trans hX hx2
    replace G1:=keep_ext hx2 G1
    have hI2:=HI.out.ext hx2
    have HI2:=Lib.hid hI2
    clear hI2 HI g1 gf1
    go_wp2_with fail
    go_roundw
    case rel=>exact ⟨k + 1,by omega,by go_num,X2,by rw [HST.out];exact HI2.out,G1⟩
    case measure=>simp [intOf];omega
   ·rw [hdb,if_pos rfl] at hst
    rw [hdb] at hld
    have HST:=Lib.hid hst;clear hst hdb
    go_wp2_with fail
    refine hld.mono ?_;rintro e2 w2 ⟨rfl,hx2⟩
    have X2:=ext_trans hX hx2
    replace G1:=keep_ext hx2 G1
    have hI2:=HI.out.ext hx2
    have HI2:=Lib.hid hI2
    have hs2:=X2.size
    clear hI2 HI g1 gf1
    go_wp2_with (refine wpList_appInt rfl _ _ rfl rfl (HI2.out.ext (ext_alloc (ext_refl _) _)) (y:=(k : Int) + 1) rfl (hg_new rfl) (by omega) (by simp;omega) (fun v' w' hS' hg=>?_))
    go_roundw
    case rel=>exact ⟨k + 1,by omega,by go_num,ext_grown (ext_alloc X2 _) (HI2.out.ext (ext_alloc (ext_refl _) _)) hg,by rw [HST.out];exact hS',keep_grown (hg_alloc G1) (by decide) (HI2.out.ext (ext_alloc (ext_refl _) _)) hg⟩
    case measure=>simp [intOf];omega
  ·obtain rfl : k = 6:=by omega
   obtain ⟨a1,c1,hv1⟩:=hI.form
   have HI:=Lib.hid hI.ints
   subst hv1
   clear hI
   go_wp2_with fail
   go_ret
   exact ⟨_,rfl,hX,HI.out⟩
end Go.Bu
namespace Go.Bu
open Go Go.RowKit Go.Plan Go.Proofs
theorem fvdv4 {c : SC} {s : Store} (h : StoreP s) : c.fv s = c.f4 ∧ c.dv s = c.d6:=by
 constructor
 ·simp only [SC.fv,h.lens.1];rfl
 ·simp only [SC.dv,h.lens.2];rfl
def DoneS (c : SC) (w : World) (s : Store) (e : Ending) (w' : World) : Prop:=e = .returned (.agg #[c.f4,c.d6]) ∧ Chg c.L w w' ∧ OwnS c w' s
theorem l21Do_L (c : SC) (s : Store) (e : Event) (w : World) (h : OwnS c w s) (hs : StoreP s) : Calls Tryz.prog 50 #[.agg #[c.f4,c.d6],eventA e] w (DoneS c w (playDoS s e)):=by
 have:=l21Do_c c s e w h hs
 rw [(fvdv4 hs).1,(fvdv4 hs).2] at this
 exact this.mono fun en w' ⟨h1,h2,h3⟩=>⟨by rw [h1,(fvdv4 (hs.play e)).1,(fvdv4 (hs.play e)).2],h2,h3⟩
theorem IntsQ.to {w w' : World} {xs : List Int} {e : Ending} (h : IntsQ w xs e w') : ∃ v,e = .returned v ∧ RetC w (fun _ _ v w'=>Ints (Old w') w' v xs) v w':=h
def LineS (c : SC) (w : World) (r : Store × Str) (e : Ending) (w' : World) : Prop:=e = .returned (.tuple #[.agg #[c.f4,c.d6],strV r.2]) ∧ Chg c.L w w' ∧ OwnS c w' r.1
theorem flashT_of {s : Store} (h : storeOkB s = true) (hw : ∀ b ∈ s.flash,b.worn ≤ 75) : FlashT s.flash:=by
 have hF:=(storeOk_iff.1 h).ord.ok
 refine ⟨by have:=hF.len;omega,fun b hb=>by have:=(blockB_iff.1 (hF.blocks b hb)).1;omega,fun b hb p hp=>?_,fun b hb=>⟨(blockB_iff.1 (hF.blocks b hb)).2.1,by have:=hw b hb;omega⟩⟩
 exact (blockB_iff.1 (hF.blocks b hb)).2.2.2.1 p hp
theorem disk_small {s : Store} (h : storeOkB s = true) : ∀ n ∈ s.disk,Small3 n:=fun n hn=>by
 obtain ⟨k,hk,rfl⟩:=List.mem_iff_getElem.1 hn
 have:=((storeOk_iff.1 h).disk k _ (List.getElem?_eq_getElem hk)).val
 exact ⟨by omega,by omega⟩
theorem dirtyL_small (s : Store) : (∀ n ∈ dirtyL s,Small3 n) ∧ (dirtyL s).length ≤ 6:=by
 refine ⟨fun n hn=>?_,by have:=dirtyL_len s 6 (by omega);exact this⟩
 obtain ⟨k,hk,rfl⟩:=List.mem_map.1 hn
 have:=(List.mem_filter.1 hk).1
 have : k < 6:=by
  have h : ∀ k ∈ addrs6,k < 6:=by decide
  exact h k this
 exact ⟨by omega,by omega⟩
set_option maxRecDepth 20000 in
set_option maxHeartbeats 4000000 in
theorem l31Line_c (c : SC) (s : Store) (l : Str) (w : World) (h : OwnS c w s) (hok : storeOkB s = true) (hw : ∀ b ∈ s.flash,b.worn ≤ 75) (hl : l.length ≤ 1000) :
  Calls Tryz.prog 31 #[.agg #[c.f4,c.d6],strV l] w (LineS c w (lineDo s l)):=by
 have hP:=storeOk_P hok
 have HNB:=Lib.hid h.new
 have HO:=Lib.hid h
 have HL:=Lib.hid fun b hb=>h.lt b hb
 have hcut:=fun (w' : World)=>l1Cut_c l 32 (by omega) w'
 have hdo:=fun (e : Event) (w' : World) (ho : OwnS c w' s)=>l21Do_L c s e w' ho hP
 have hfl:=fun (w' : World) (ho : OwnS c w' s)=>l31Flash_c c.f4 s.flash w' (ho.at4 hP).1 (flashT_of hok hw)
 have hnd:=fun (w' : World) (ho : OwnS c w' s)=>l31Nums_c wDisk c.d6 s.disk w' (ho.at4 hP).2 (disk_small hok) (by have:=hP.disk;omega) (by decide)
 have hdy:=fun (w' : World) (ho : OwnS c w' s)=>specStoreDirty_c c.f4 c.d6 s w' (ho.at4 hP) hok
 have hnn:=fun (v : Value) (w' : World) (hi : Ints (Old w') w' v (dirtyL s))=>l31Nums_c wDirty v (dirtyL s) w' hi (dirtyL_small s).1 (by have:=(dirtyL_small s).2;omega) (by decide)
 have HCUT:=Lib.hid hcut;have HDO:=Lib.hid hdo;have HFL:=Lib.hid hfl;have HND:=Lib.hid hnd;have HDY:=Lib.hid hdy;have HNN:=Lib.hid hnn
 have hwl : (cut 32 l).length ≤ 1000000:=by have:=cut_len 32 l;omega
 clear hcut hdo hfl hnd hdy hnn hP hok hw h hl
 obtain ⟨w0,rest,hcw⟩ : ∃ w0 rest,cut 32 l = w0 :: rest:=by
  cases hh : cut 32 l with
  | nil=>exact absurd hh (cut_ne 32 l)
  | cons a b=>exact ⟨a,b,rfl⟩
 unfold lineDo
 rw [hcw] at HCUT hwl ⊢
 clear hcw
 have hw0 : ∀ (v : Value) (w' : World),Strs (Old w') w' v (w0 :: rest) → ∃ b o cap,v = .slice (some ⟨b,o,none⟩) (rest.length + 1) cap ∧ b < w'.heap.size ∧ w'.cell? ⟨b,o,none⟩ = some (.string ⟨w0.toArray⟩):=by
  intro v w' hs
  obtain ⟨a,cap,rfl⟩:=hs.form
  obtain ⟨b,o,rfl,hb,hc⟩:=hs.at1 (k:=0) (by simp)
  exact ⟨b,o,cap,rfl,hb,hc⟩
 have HW0:=Lib.hid hw0;clear hw0
 obtain ⟨n,hn⟩ : ∃ n,rest.length + 1 = n:=⟨_,rfl⟩
 have hn0 : 0 < n:=by omega
 rw [hn] at HW0
 have hAt:=fun (k : Nat) (hk : k ≤ 100) (v : Value) (w' : World) (hs : Strs (Old w') w' v (w0 :: rest))=>l31At_c v (w0 :: rest) k hk hwl w' hs
 have HAT:=Lib.hid hAt;clear hAt hwl hn
 obtain ⟨a1,ha1⟩ : ∃ a,atS (w0 :: rest) 1 = a:=⟨_,rfl⟩
 obtain ⟨a2,ha2⟩ : ∃ a,atS (w0 :: rest) 2 = a:=⟨_,rfl⟩
 obtain ⟨a3,ha3⟩ : ∃ a,atS (w0 :: rest) 3 = a:=⟨_,rfl⟩
 by_cases c1 : w0 = wPut
 ·rw [wd1 s (ws:=w0 :: rest) c1]
  unfold evPut
  rw [ha1,ha2]
  have hq1 : (w0 == [112,117,116]) = true:=by rw [c1];rfl
  clear c1
  go_enter Tryz.func31,Tryz.ntmps31
  go_wp2_with fail
  refine (HCUT.out _).mono ?_;rintro e1 w1 ⟨v1,rfl,hx1,hS1⟩
  have X1 : Ext w w1:=ext_trans (ext_alloc (ext_alloc (ext_refl _) _) _) hx1
  have G2 : w1.heap[w.heap.size]? = some (.cells #[c.f4,c.d6] 42 (0,0)):=keep_ext hx1 (hg_alloc (hg_new rfl))
  have G4 : w1.heap[w.heap.size + 1]? = some (.cells #[.slice none 0 0,.slice none 0 0] 42 (0,0)):=keep_ext hx1 (hg_new (by simp))
  obtain ⟨wb,wo,wc,rfl,hwb,c0⟩:=HW0.out _ _ hS1
  have HS1:=Lib.hid hS1
  clear hx1 hS1
  go_wp2_with fail
  refine (HAT.out 1 (by omega) _ _ HS1.out).mono ?_;rintro e2 w2 ⟨rfl,hx2⟩
  have HS2:=Lib.hid (HS1.out.ext hx2)
  replace c0:=cell_ext hx2 c0
  replace G2:=keep_ext hx2 G2
  replace G4:=keep_ext hx2 G4
  have X2:=ext_trans X1 hx2
  have ho2:=HO.out.ext X2
  have HO2:=Lib.hid ho2
  rw [ha1]
  obtain ⟨g2,gf2⟩:=cellsK G2
  obtain ⟨g4,gf4⟩:=cellsK G4
  have l4:=heap_lt G4
  have l2:=heap_lt G2
  have lwb:=cell_lt c0
  clear hx2 X1 ho2 HS1 hwb
  go_wp2_with fail
  refine (HAT.out 2 (by omega) _ _ (HS2.out.ext (ext_alloc (ext_refl _) _))).mono ?_;rintro e3 w3 ⟨rfl,hx3⟩
  rw [ha2]
  have XW:=ext_trans (ext_trans X2 (ext_alloc (ext_refl _) _)) hx3
  have G7:=keep_ext hx3 (hg_new (w:=w2) (b:=w2.heap.size) rfl)
  have G43:=keep_ext (ext_trans (ext_alloc (ext_refl _) _) hx3) G4
  have G23:=keep_ext (ext_trans (ext_alloc (ext_refl _) _) hx3) G2
  have ho3:=HO.out.ext XW
  have l7:=heap_lt G7
  have s2:=X2.size
  obtain ⟨g7,gf7⟩:=cellsK G7
  obtain ⟨g23,gf23⟩:=cellsK G23
  have G4L:=hg_set (w:=w3) (a:=⟨w2.heap.size,2,none⟩) (v:=.int .i64 a2) (by dsimp only;omega) G43
  have hc3 : Chg c.L w w3:=Chg.of_ext XW
  have CWL : Chg c.L w (w3.setCell ⟨w2.heap.size,2,none⟩ (.int .i64 a2)):=by ((repeat (first | with_reducible (refine Chg.set2 ?_ ?_);focus (exact Or.inr (by dsimp only;omega)) | with_reducible refine Chg.alloc2 ?_));with_reducible exact hc3)
  have OWN : OwnS c (w3.setCell ⟨w2.heap.size,2,none⟩ (.int .i64 a2)) s:=by ((repeat (first | (with_reducible apply OwnS.set2;focus (exact HNB.out _ (by dsimp only;omega))) | with_reducible apply OwnS.alloc2));with_reducible exact ho3)
  clear hx3 g2 gf2 g4 gf4
  go_wp2_with fail
  clear g7 gf7 g23 gf23
  refine (HDO.out ⟨1,a1,a2,60,false⟩ _ OWN).mono ?_;rintro e5 w5 ⟨rfl,hC5,hO5⟩
  have G45:=hC5.keep G4L (HNB.out _ (by omega))
  have l45:=heap_lt G45
  obtain ⟨g45,gf45⟩:=cellsK G45
  have HO5:=Lib.hid hO5
  have HC5:=Lib.hid (Chg.trans CWL hC5)
  clear hC5 hO5
  go_wp2_with fail
  refine bodyPost_ret (v:=.tuple #[.agg #[c.f4,c.d6],.string ⟨#[]⟩]) (by simp [results,Tryz.results31,go_sem,g45,gf45]) rfl ⟨rfl,?_,?_⟩
  ·have hc:=HC5.out
   ((repeat (first | with_reducible (refine Chg.set2 ?_ ?_);focus (exact Or.inr (by dsimp only;omega)) | with_reducible refine Chg.alloc2 ?_));with_reducible exact hc)
  ·have ho:=HO5.out
   ((repeat (first | (with_reducible apply OwnS.set2;focus (exact HNB.out _ (by dsimp only;omega))) | with_reducible apply OwnS.alloc2));with_reducible exact ho)
 have hq1 : (w0 == [112,117,116]) = false:=beq_eq_false_iff_ne.2 c1
 by_cases c2 : w0 = wFall
 ·rw [wd2 s (ws:=w0 :: rest) c1 c2]
  unfold evFall
  rw [ha1,ha2,ha3]
  have hq2 : (w0 == [102,97,108,108]) = true:=by rw [c2];rfl
  clear c1 c2
  go_enter Tryz.func31,Tryz.ntmps31
  go_wp2_with fail
  refine (HCUT.out _).mono ?_;rintro e1 w1 ⟨v1,rfl,hx1,hS1⟩
  have X1 : Ext w w1:=ext_trans (ext_alloc (ext_alloc (ext_refl _) _) _) hx1
  have G2 : w1.heap[w.heap.size]? = some (.cells #[c.f4,c.d6] 42 (0,0)):=keep_ext hx1 (hg_alloc (hg_new rfl))
  have G4 : w1.heap[w.heap.size + 1]? = some (.cells #[.slice none 0 0,.slice none 0 0] 42 (0,0)):=keep_ext hx1 (hg_new (by simp))
  obtain ⟨wb,wo,wc,rfl,hwb,c0⟩:=HW0.out _ _ hS1
  have HS1:=Lib.hid hS1
  clear hx1 hS1
  go_wp2_with fail
  refine (HAT.out 1 (by omega) _ _ HS1.out).mono ?_;rintro e2 w2 ⟨rfl,hx2⟩
  have HS2:=Lib.hid (HS1.out.ext hx2)
  replace c0:=cell_ext hx2 c0
  replace G2:=keep_ext hx2 G2
  replace G4:=keep_ext hx2 G4
  have X2:=ext_trans X1 hx2
  have ho2:=HO.out.ext X2
  have HO2:=Lib.hid ho2
  rw [ha1]
  obtain ⟨g2,gf2⟩:=cellsK G2
  obtain ⟨g4,gf4⟩:=cellsK G4
  have l4:=heap_lt G4
  have l2:=heap_lt G2
  have lwb:=cell_lt c0
  clear hx2 X1 ho2 HS1 hwb
  go_wp2_with fail
  have G7':=hg_new (w:=w2) (b:=w2.heap.size) (x:=.cells #[.int .i64 0,.int .i64 a1,.int .i64 0,.int .i64 60,.bool false] 83) rfl
  have XA : Ext w2 (w2.alloc (.cells #[.int .i64 0,.int .i64 a1,.int .i64 0,.int .i64 60,.bool false] 83)):=ext_alloc (ext_refl _) _
  refine (HAT.out 1 (by omega) _ _ (HS2.out.ext XA)).mono ?_;rintro e3 w3 ⟨rfl,hx3⟩
  rw [ha1]
  have X23:=ext_trans XA hx3
  go_wp2_with fail
  refine (HAT.out 2 (by omega) _ _ (HS2.out.ext X23)).mono ?_;rintro e4 w4 ⟨rfl,hx4⟩
  rw [ha2]
  have X24:=ext_trans X23 hx4
  go_wp2_with fail
  refine (HAT.out 3 (by omega) _ _ (HS2.out.ext X24)).mono ?_;rintro e5 w5 ⟨rfl,hx5⟩
  rw [ha3]
  have X25:=ext_trans X24 hx5
  have XW:=ext_trans X2 X25
  have G7:=keep_ext (ext_trans hx3 (ext_trans hx4 hx5)) G7'
  have G43:=keep_ext X25 G4
  have G23:=keep_ext X25 G2
  have ho3:=HO.out.ext XW
  have l7:=heap_lt G7
  have s2:=X2.size
  obtain ⟨g7,gf7⟩:=cellsK G7
  obtain ⟨g23,gf23⟩:=cellsK G23
  have hth : w5.there w2.heap.size 0 5:=fun j hj=>by
   rw [Nat.zero_add,cell_block G7,frozen_block G7,Array.getElem?_eq_getElem (by simpa using hj)];exact ⟨rfl,rfl⟩
  obtain ⟨w6,hw6⟩ : ∃ w6,setAll w5 w2.heap.size 0 [.int .i64 1,.int .i64 a1,.int .i64 a2,.int .i64 a3,.bool true] = w6:=⟨_,rfl⟩
  obtain ⟨c6,hc6,hc6s,hc6g⟩:=setAll_block [.int .i64 1,.int .i64 a1,.int .i64 a2,.int .i64 a3,.bool true] w5 0 _ G7 rfl
  obtain rfl : c6 = #[.int .i64 1,.int .i64 a1,.int .i64 a2,.int .i64 a3,.bool true]:=by
   apply Array.ext_getElem?;intro j;rw [hc6g j,if_pos (Nat.zero_le _)];simp
  have C6 : Chg [w2.heap.size] w5 w6:=by rw [← hw6];exact setAll_chg (Chg.refl _ _) (by simp) _
  rw [hw6] at hc6
  have G4L:=C6.keep G43 (by simp;omega)
  have G2L:=C6.keep G23 (by simp;omega)
  have CWL : Chg c.L w w6:=(Chg.of_ext (C6.ext XW (by simp;omega)) : Chg c.L w w6)
  have OWN : OwnS c w6 s:=ho3.chg C6 fun b hb hm=>by simp at hm;have:=HNB.out w2.heap.size (by omega);rw [hm] at hb;exact this hb
  obtain ⟨k7,kf7⟩:=cellsK hc6
  obtain ⟨k2,kf2⟩:=cellsK G2L
  clear hx3 hx4 hx5 g2 gf2 g4 gf4 hc6s hc6g
  have HW6:=Lib.hid hw6;clear hw6
  go_wp2_with fail
  change Calls _ _ _ (setAll w5 w2.heap.size 0 [.int .i64 1,.int .i64 a1,.int .i64 a2,.int .i64 a3,.bool true]) _
  rw [HW6.out]
  clear g7 gf7 g23 gf23 k7 kf7 k2 kf2
  refine (HDO.out ⟨1,a1,a2,a3,true⟩ _ OWN).mono ?_;rintro e5 w5 ⟨rfl,hC5,hO5⟩
  have G45:=hC5.keep G4L (HNB.out _ (by omega))
  have l45:=heap_lt G45
  obtain ⟨g45,gf45⟩:=cellsK G45
  have HO5:=Lib.hid hO5
  have HC5:=Lib.hid (Chg.trans CWL hC5)
  clear hC5 hO5
  go_wp2_with fail
  refine bodyPost_ret (v:=.tuple #[.agg #[c.f4,c.d6],.string ⟨#[]⟩]) (by simp [results,Tryz.results31,go_sem,g45,gf45]) rfl ⟨rfl,?_,?_⟩
  ·have hc:=HC5.out
   ((repeat (first | with_reducible (refine Chg.set2 ?_ ?_);focus (exact Or.inr (by dsimp only;omega)) | with_reducible refine Chg.alloc2 ?_));with_reducible exact hc)
  ·have ho:=HO5.out
   ((repeat (first | (with_reducible apply OwnS.set2;focus (exact HNB.out _ (by dsimp only;omega))) | with_reducible apply OwnS.alloc2));with_reducible exact ho)
 have hq2 : (w0 == [102,97,108,108]) = false:=beq_eq_false_iff_ne.2 c2
 by_cases c3 : w0 = wFlush
 ·rw [wd3 s (ws:=w0 :: rest) c1 c2 c3]
  unfold evFlush
  rw [ha1]
  have hq3 : (w0 == [102,108,117,115,104]) = true:=by rw [c3];rfl
  clear c1 c2 c3
  go_enter Tryz.func31,Tryz.ntmps31
  go_wp2_with fail
  refine (HCUT.out _).mono ?_;rintro e1 w1 ⟨v1,rfl,hx1,hS1⟩
  have X1 : Ext w w1:=ext_trans (ext_alloc (ext_alloc (ext_refl _) _) _) hx1
  have G2 : w1.heap[w.heap.size]? = some (.cells #[c.f4,c.d6] 42 (0,0)):=keep_ext hx1 (hg_alloc (hg_new rfl))
  have G4 : w1.heap[w.heap.size + 1]? = some (.cells #[.slice none 0 0,.slice none 0 0] 42 (0,0)):=keep_ext hx1 (hg_new (by simp))
  obtain ⟨wb,wo,wc,rfl,hwb,c0⟩:=HW0.out _ _ hS1
  have HS1:=Lib.hid hS1
  clear hx1 hS1
  go_wp2_with fail
  refine (HAT.out 1 (by omega) _ _ HS1.out).mono ?_;rintro e2 w2 ⟨rfl,hx2⟩
  have HS2:=Lib.hid (HS1.out.ext hx2)
  replace c0:=cell_ext hx2 c0
  replace G2:=keep_ext hx2 G2
  replace G4:=keep_ext hx2 G4
  have X2:=ext_trans X1 hx2
  have ho2:=HO.out.ext X2
  have HO2:=Lib.hid ho2
  rw [ha1]
  obtain ⟨g2,gf2⟩:=cellsK G2
  obtain ⟨g4,gf4⟩:=cellsK G4
  have l4:=heap_lt G4
  have l2:=heap_lt G2
  have lwb:=cell_lt c0
  clear hx2 X1 ho2 HS1 hwb
  have G4L:=hg_alloc (x:=.cells #[.int .i64 2,.int .i64 a1,.int .i64 0,.int .i64 60,.bool false] 83) G4
  have CWL : Chg c.L w (w2.alloc (.cells #[.int .i64 2,.int .i64 a1,.int .i64 0,.int .i64 60,.bool false] 83)):=Chg.of_ext (ext_trans X2 (ext_alloc (ext_refl _) _))
  have OWN:=HO2.out.ext (ext_alloc (ext_refl _) (.cells #[.int .i64 2,.int .i64 a1,.int .i64 0,.int .i64 60,.bool false] 83))
  go_wp2_with fail
  clear g2 gf2 g4 gf4
  refine (HDO.out ⟨2,a1,0,60,false⟩ _ OWN).mono ?_;rintro e5 w5 ⟨rfl,hC5,hO5⟩
  have G45:=hC5.keep G4L (HNB.out _ (by omega))
  have l45:=heap_lt G45
  obtain ⟨g45,gf45⟩:=cellsK G45
  have HO5:=Lib.hid hO5
  have HC5:=Lib.hid (Chg.trans CWL hC5)
  clear hC5 hO5
  go_wp2_with fail
  refine bodyPost_ret (v:=.tuple #[.agg #[c.f4,c.d6],.string ⟨#[]⟩]) (by simp [results,Tryz.results31,go_sem,g45,gf45]) rfl ⟨rfl,?_,?_⟩
  ·have hc:=HC5.out
   ((repeat (first | with_reducible (refine Chg.set2 ?_ ?_);focus (exact Or.inr (by dsimp only;omega)) | with_reducible refine Chg.alloc2 ?_));with_reducible exact hc)
  ·have ho:=HO5.out
   ((repeat (first | (with_reducible apply OwnS.set2;focus (exact HNB.out _ (by dsimp only;omega))) | with_reducible apply OwnS.alloc2));with_reducible exact ho)
 have hq3 : (w0 == [102,108,117,115,104]) = false:=beq_eq_false_iff_ne.2 c3
 by_cases c4 : w0 = wFill
 ·rw [wd4 s (ws:=w0 :: rest) c1 c2 c3 c4]
  unfold evFill
  rw [ha1]
  have hq4 : (w0 == [102,105,108,108]) = true:=by rw [c4];rfl
  clear c1 c2 c3 c4
  go_enter Tryz.func31,Tryz.ntmps31
  go_wp2_with fail
  refine (HCUT.out _).mono ?_;rintro e1 w1 ⟨v1,rfl,hx1,hS1⟩
  have X1 : Ext w w1:=ext_trans (ext_alloc (ext_alloc (ext_refl _) _) _) hx1
  have G2 : w1.heap[w.heap.size]? = some (.cells #[c.f4,c.d6] 42 (0,0)):=keep_ext hx1 (hg_alloc (hg_new rfl))
  have G4 : w1.heap[w.heap.size + 1]? = some (.cells #[.slice none 0 0,.slice none 0 0] 42 (0,0)):=keep_ext hx1 (hg_new (by simp))
  obtain ⟨wb,wo,wc,rfl,hwb,c0⟩:=HW0.out _ _ hS1
  have HS1:=Lib.hid hS1
  clear hx1 hS1
  go_wp2_with fail
  refine (HAT.out 1 (by omega) _ _ HS1.out).mono ?_;rintro e2 w2 ⟨rfl,hx2⟩
  have HS2:=Lib.hid (HS1.out.ext hx2)
  replace c0:=cell_ext hx2 c0
  replace G2:=keep_ext hx2 G2
  replace G4:=keep_ext hx2 G4
  have X2:=ext_trans X1 hx2
  have ho2:=HO.out.ext X2
  have HO2:=Lib.hid ho2
  rw [ha1]
  obtain ⟨g2,gf2⟩:=cellsK G2
  obtain ⟨g4,gf4⟩:=cellsK G4
  have l4:=heap_lt G4
  have l2:=heap_lt G2
  have lwb:=cell_lt c0
  clear hx2 X1 ho2 HS1 hwb
  have G4L:=hg_alloc (x:=.cells #[.int .i64 3,.int .i64 a1,.int .i64 0,.int .i64 60,.bool false] 83) G4
  have CWL : Chg c.L w (w2.alloc (.cells #[.int .i64 3,.int .i64 a1,.int .i64 0,.int .i64 60,.bool false] 83)):=Chg.of_ext (ext_trans X2 (ext_alloc (ext_refl _) _))
  have OWN:=HO2.out.ext (ext_alloc (ext_refl _) (.cells #[.int .i64 3,.int .i64 a1,.int .i64 0,.int .i64 60,.bool false] 83))
  go_wp2_with fail
  clear g2 gf2 g4 gf4
  refine (HDO.out ⟨3,a1,0,60,false⟩ _ OWN).mono ?_;rintro e5 w5 ⟨rfl,hC5,hO5⟩
  have G45:=hC5.keep G4L (HNB.out _ (by omega))
  have l45:=heap_lt G45
  obtain ⟨g45,gf45⟩:=cellsK G45
  have HO5:=Lib.hid hO5
  have HC5:=Lib.hid (Chg.trans CWL hC5)
  clear hC5 hO5
  go_wp2_with fail
  refine bodyPost_ret (v:=.tuple #[.agg #[c.f4,c.d6],.string ⟨#[]⟩]) (by simp [results,Tryz.results31,go_sem,g45,gf45]) rfl ⟨rfl,?_,?_⟩
  ·have hc:=HC5.out
   ((repeat (first | with_reducible (refine Chg.set2 ?_ ?_);focus (exact Or.inr (by dsimp only;omega)) | with_reducible refine Chg.alloc2 ?_));with_reducible exact hc)
  ·have ho:=HO5.out
   ((repeat (first | (with_reducible apply OwnS.set2;focus (exact HNB.out _ (by dsimp only;omega))) | with_reducible apply OwnS.alloc2));with_reducible exact ho)
 have hq4 : (w0 == [102,105,108,108]) = false:=beq_eq_false_iff_ne.2 c4
 by_cases c5 : w0 = wAll
 ·rw [wd5 s (ws:=w0 :: rest) c1 c2 c3 c4 c5]
  have hq5 : (w0 == [97,108,108]) = true:=by rw [c5];rfl
  have e4 : playAllS s = playDoS s ⟨4,a1,0,60,false⟩:=rfl
  rw [e4]
  clear c1 c2 c3 c4 c5 e4
  go_enter Tryz.func31,Tryz.ntmps31
  go_wp2_with fail
  refine (HCUT.out _).mono ?_;rintro e1 w1 ⟨v1,rfl,hx1,hS1⟩
  have X1 : Ext w w1:=ext_trans (ext_alloc (ext_alloc (ext_refl _) _) _) hx1
  have G2 : w1.heap[w.heap.size]? = some (.cells #[c.f4,c.d6] 42 (0,0)):=keep_ext hx1 (hg_alloc (hg_new rfl))
  have G4 : w1.heap[w.heap.size + 1]? = some (.cells #[.slice none 0 0,.slice none 0 0] 42 (0,0)):=keep_ext hx1 (hg_new (by simp))
  obtain ⟨wb,wo,wc,rfl,hwb,c0⟩:=HW0.out _ _ hS1
  have HS1:=Lib.hid hS1
  clear hx1 hS1
  go_wp2_with fail
  refine (HAT.out 1 (by omega) _ _ HS1.out).mono ?_;rintro e2 w2 ⟨rfl,hx2⟩
  have HS2:=Lib.hid (HS1.out.ext hx2)
  replace c0:=cell_ext hx2 c0
  replace G2:=keep_ext hx2 G2
  replace G4:=keep_ext hx2 G4
  have X2:=ext_trans X1 hx2
  have ho2:=HO.out.ext X2
  have HO2:=Lib.hid ho2
  rw [ha1]
  obtain ⟨g2,gf2⟩:=cellsK G2
  obtain ⟨g4,gf4⟩:=cellsK G4
  have l4:=heap_lt G4
  have l2:=heap_lt G2
  have lwb:=cell_lt c0
  clear hx2 X1 ho2 HS1 hwb
  have G4L:=hg_alloc (x:=.cells #[.int .i64 4,.int .i64 a1,.int .i64 0,.int .i64 60,.bool false] 83) G4
  have CWL : Chg c.L w (w2.alloc (.cells #[.int .i64 4,.int .i64 a1,.int .i64 0,.int .i64 60,.bool false] 83)):=Chg.of_ext (ext_trans X2 (ext_alloc (ext_refl _) _))
  have OWN:=HO2.out.ext (ext_alloc (ext_refl _) (.cells #[.int .i64 4,.int .i64 a1,.int .i64 0,.int .i64 60,.bool false] 83))
  go_wp2_with fail
  clear g2 gf2 g4 gf4
  refine (HDO.out ⟨4,a1,0,60,false⟩ _ OWN).mono ?_;rintro e5 w5 ⟨rfl,hC5,hO5⟩
  have G45:=hC5.keep G4L (HNB.out _ (by omega))
  have l45:=heap_lt G45
  obtain ⟨g45,gf45⟩:=cellsK G45
  have HO5:=Lib.hid hO5
  have HC5:=Lib.hid (Chg.trans CWL hC5)
  clear hC5 hO5
  go_wp2_with fail
  refine bodyPost_ret (v:=.tuple #[.agg #[c.f4,c.d6],.string ⟨#[]⟩]) (by simp [results,Tryz.results31,go_sem,g45,gf45]) rfl ⟨rfl,?_,?_⟩
  ·have hc:=HC5.out
   ((repeat (first | with_reducible (refine Chg.set2 ?_ ?_);focus (exact Or.inr (by dsimp only;omega)) | with_reducible refine Chg.alloc2 ?_));with_reducible exact hc)
  ·have ho:=HO5.out
   ((repeat (first | (with_reducible apply OwnS.set2;focus (exact HNB.out _ (by dsimp only;omega))) | with_reducible apply OwnS.alloc2));with_reducible exact ho)
 have hq5 : (w0 == [97,108,108]) = false:=beq_eq_false_iff_ne.2 c5
 by_cases c6 : w0 = wSee
 ·rw [wd6 s (ws:=w0 :: rest) c1 c2 c3 c4 c5 c6]
  have hq6 : (w0 == [115,101,101]) = true:=by rw [c6];rfl
  clear c1 c2 c3 c4 c5 c6
  obtain ⟨FS,hFS⟩ : ∃ FS,flashS s.flash = FS:=⟨_,rfl⟩
  rw [hFS] at HFL ⊢
  go_enter Tryz.func31,Tryz.ntmps31
  go_wp2_with fail
  refine (HCUT.out _).mono ?_;rintro e1 w1 ⟨v1,rfl,hx1,hS1⟩
  have X1 : Ext w w1:=ext_trans (ext_alloc (ext_alloc (ext_refl _) _) _) hx1
  have G2 : w1.heap[w.heap.size]? = some (.cells #[c.f4,c.d6] 42 (0,0)):=keep_ext hx1 (hg_alloc (hg_new rfl))
  have G4 : w1.heap[w.heap.size + 1]? = some (.cells #[.slice none 0 0,.slice none 0 0] 42 (0,0)):=keep_ext hx1 (hg_new (by simp))
  obtain ⟨wb,wo,wc,rfl,hwb,c0⟩:=HW0.out _ _ hS1
  have HS1:=Lib.hid hS1
  clear hx1 hS1
  go_wp2_with fail
  refine (HAT.out 1 (by omega) _ _ HS1.out).mono ?_;rintro e2 w2 ⟨rfl,hx2⟩
  have HS2:=Lib.hid (HS1.out.ext hx2)
  replace c0:=cell_ext hx2 c0
  replace G2:=keep_ext hx2 G2
  replace G4:=keep_ext hx2 G4
  have X2:=ext_trans X1 hx2
  have ho2:=HO.out.ext X2
  have HO2:=Lib.hid ho2
  rw [ha1]
  obtain ⟨g2,gf2⟩:=cellsK G2
  obtain ⟨g4,gf4⟩:=cellsK G4
  have l4:=heap_lt G4
  have l2:=heap_lt G2
  have lwb:=cell_lt c0
  clear hx2 X1 ho2 HS1 hwb
  have XA : Ext w2 (w2.alloc (.cells #[.int .i64 0,.int .i64 a1,.int .i64 0,.int .i64 60,.bool false] 83)):=ext_alloc (ext_refl _) _
  have G2A:=keep_ext XA G2
  have G4A:=keep_ext XA G4
  have OA:=HO2.out.ext XA
  have HOA:=Lib.hid OA
  clear OA g2 gf2 g4 gf4
  have lA:=heap_lt G4A
  go_wp2_with fail
  generalize w2.alloc (.cells #[.int .i64 0,.int .i64 a1,.int .i64 0,.int .i64 60,.bool false] 83) = wA at *
  have XA2:=ext_trans X2 XA
  refine wp_region_ext [3] [0,1,2,3] [] [4,5] (by kernel_rfl) (by kernel_rfl) ?late ?_
  case late=>exact fun f hf=>absurd hf List.not_mem_nil
  refine Rob.y (v:=?_) rfl rfl (fun w1 hx hH=>?_) ?_;rotate_left
  ·(obtain ⟨z2,zf2⟩:=cellsK (keep_ext hx G2A));go_simp;first | done | rfl
  simp only [Act.put,slA,slB,slC]
  refine Rob.y (v:=?_) rfl rfl (fun w1 hx hH=>?_) ?_;rotate_left
  ·go_simp;first | done | rfl | exact (Bool.not_not _).symm
  simp only [Act.put,slA,slB,slC]
  refine Rob.y (v:=?_) rfl rfl (fun w1 hx hH=>?_) ?_;rotate_left
  ·(obtain ⟨z2,zf2⟩:=cellsK (keep_ext hx G2A));go_simp;first | done | rfl
  simp only [Act.put,slA,slB,slC]
  refine Rob.cv (strV FS) rfl rfl rfl (fun _ _=>ext_trans) (fun w1 hx hH=>?_) (fun lo3 hi3 hlo3 hhi3=>?_)
  ·unfold RunTo;go_simp;exact (HFL.out _ (HOA.out.ext hx)).mono fun e w' h=>h.to
  simp only [Act.put,slA,slB,slC]
  refine fin_tail (fun w4 hx4 _=>?_)
  simp only [dstOf,List.getElem?_cons_succ,List.getElem?_cons_zero,Option.bind_some,Act.put,slA,slB,slC,List.filterMap_cons,List.filterMap_nil]
  have X4:=ext_trans XA2 hx4
  have G44:=keep_ext hx4 G4A
  have l44:=heap_lt G44
  obtain ⟨g44,gf44⟩:=cellsK G44
  refine wpList_plain rfl (fun K hK=>?_)
  go_simp
  refine hK _ _ ?_
  clear hK K
  refine wpList_plain rfl (fun K hK=>?_)
  go_simp
  refine hK _ _ ?_
  clear hK K
  refine wpList_nil ?_
  go_wp2_with fail
  refine bodyPost_ret (v:=.tuple #[.agg #[c.f4,c.d6],strV FS]) (by simp [results,Tryz.results31,go_sem,g44,gf44]) rfl ⟨rfl,?_,?_⟩
  ·have hc : Chg c.L w w4:=Chg.of_ext X4
   ((repeat (first | with_reducible (refine Chg.set2 ?_ ?_);focus (exact Or.inr (by dsimp only;omega)) | with_reducible refine Chg.alloc2 ?_));with_reducible exact hc)
  ·have ho:=HO.out.ext X4
   ((repeat (first | (with_reducible apply OwnS.set2;focus (exact HNB.out _ (by dsimp only;omega))) | with_reducible apply OwnS.alloc2));with_reducible exact ho)
 have hq6 : (w0 == [115,101,101]) = false:=beq_eq_false_iff_ne.2 c6
 by_cases c7 : w0 = wDisk
 ·rw [wd7 s (ws:=w0 :: rest) c1 c2 c3 c4 c5 c6 c7]
  have hq7 : (w0 == [100,105,115,107]) = true:=by rw [c7];rfl
  clear c1 c2 c3 c4 c5 c6 c7
  obtain ⟨FS,hFS⟩ : ∃ FS,numsS wDisk s.disk = FS:=⟨_,rfl⟩
  rw [hFS] at HND ⊢
  go_enter Tryz.func31,Tryz.ntmps31
  go_wp2_with fail
  refine (HCUT.out _).mono ?_;rintro e1 w1 ⟨v1,rfl,hx1,hS1⟩
  have X1 : Ext w w1:=ext_trans (ext_alloc (ext_alloc (ext_refl _) _) _) hx1
  have G2 : w1.heap[w.heap.size]? = some (.cells #[c.f4,c.d6] 42 (0,0)):=keep_ext hx1 (hg_alloc (hg_new rfl))
  have G4 : w1.heap[w.heap.size + 1]? = some (.cells #[.slice none 0 0,.slice none 0 0] 42 (0,0)):=keep_ext hx1 (hg_new (by simp))
  obtain ⟨wb,wo,wc,rfl,hwb,c0⟩:=HW0.out _ _ hS1
  have HS1:=Lib.hid hS1
  clear hx1 hS1
  go_wp2_with fail
  refine (HAT.out 1 (by omega) _ _ HS1.out).mono ?_;rintro e2 w2 ⟨rfl,hx2⟩
  have HS2:=Lib.hid (HS1.out.ext hx2)
  replace c0:=cell_ext hx2 c0
  replace G2:=keep_ext hx2 G2
  replace G4:=keep_ext hx2 G4
  have X2:=ext_trans X1 hx2
  have ho2:=HO.out.ext X2
  have HO2:=Lib.hid ho2
  rw [ha1]
  obtain ⟨g2,gf2⟩:=cellsK G2
  obtain ⟨g4,gf4⟩:=cellsK G4
  have l4:=heap_lt G4
  have l2:=heap_lt G2
  have lwb:=cell_lt c0
  clear hx2 X1 ho2 HS1 hwb
  have XA : Ext w2 (w2.alloc (.cells #[.int .i64 0,.int .i64 a1,.int .i64 0,.int .i64 60,.bool false] 83)):=ext_alloc (ext_refl _) _
  have G2A:=keep_ext XA G2
  have G4A:=keep_ext XA G4
  have OA:=HO2.out.ext XA
  have HOA:=Lib.hid OA
  clear OA g2 gf2 g4 gf4
  have lA:=heap_lt G4A
  go_wp2_with fail
  generalize w2.alloc (.cells #[.int .i64 0,.int .i64 a1,.int .i64 0,.int .i64 60,.bool false] 83) = wA at *
  have XA2:=ext_trans X2 XA
  refine wp_region_ext [3] [0,1,2,3] [] [4,5] (by kernel_rfl) (by kernel_rfl) ?late ?_
  case late=>exact fun f hf=>absurd hf List.not_mem_nil
  refine Rob.y (v:=?_) rfl rfl (fun w1 hx hH=>?_) ?_;rotate_left
  ·(obtain ⟨z2,zf2⟩:=cellsK (keep_ext hx G2A));go_simp;first | done | rfl
  simp only [Act.put,slA,slB,slC]
  refine Rob.y (v:=?_) rfl rfl (fun w1 hx hH=>?_) ?_;rotate_left
  ·go_simp;first | done | rfl | exact (Bool.not_not _).symm
  simp only [Act.put,slA,slB,slC]
  refine Rob.y (v:=?_) rfl rfl (fun w1 hx hH=>?_) ?_;rotate_left
  ·(obtain ⟨z2,zf2⟩:=cellsK (keep_ext hx G2A));go_simp;first | done | rfl
  simp only [Act.put,slA,slB,slC]
  refine Rob.cv (strV FS) rfl rfl rfl (fun _ _=>ext_trans) (fun w1 hx hH=>?_) (fun lo3 hi3 hlo3 hhi3=>?_)
  ·unfold RunTo;go_simp;exact (HND.out _ (HOA.out.ext hx)).mono fun e w' h=>h.to
  simp only [Act.put,slA,slB,slC]
  refine fin_tail (fun w4 hx4 _=>?_)
  simp only [dstOf,List.getElem?_cons_succ,List.getElem?_cons_zero,Option.bind_some,Act.put,slA,slB,slC,List.filterMap_cons,List.filterMap_nil]
  have X4:=ext_trans XA2 hx4
  have G44:=keep_ext hx4 G4A
  have l44:=heap_lt G44
  obtain ⟨g44,gf44⟩:=cellsK G44
  refine wpList_plain rfl (fun K hK=>?_)
  go_simp
  refine hK _ _ ?_
  clear hK K
  refine wpList_plain rfl (fun K hK=>?_)
  go_simp
  refine hK _ _ ?_
  clear hK K
  refine wpList_nil ?_
  go_wp2_with fail
  refine bodyPost_ret (v:=.tuple #[.agg #[c.f4,c.d6],strV FS]) (by simp [results,Tryz.results31,go_sem,g44,gf44]) rfl ⟨rfl,?_,?_⟩
  ·have hc : Chg c.L w w4:=Chg.of_ext X4
   ((repeat (first | with_reducible (refine Chg.set2 ?_ ?_);focus (exact Or.inr (by dsimp only;omega)) | with_reducible refine Chg.alloc2 ?_));with_reducible exact hc)
  ·have ho:=HO.out.ext X4
   ((repeat (first | (with_reducible apply OwnS.set2;focus (exact HNB.out _ (by dsimp only;omega))) | with_reducible apply OwnS.alloc2));with_reducible exact ho)
 have hq7 : (w0 == [100,105,115,107]) = false:=beq_eq_false_iff_ne.2 c7
 by_cases c8 : w0 = wDirty
 ·rw [wd8 s (ws:=w0 :: rest) c1 c2 c3 c4 c5 c6 c7 c8]
  have hq8 : (w0 == [100,105,114,116,121]) = true:=by rw [c8];rfl
  clear c1 c2 c3 c4 c5 c6 c7 c8
  obtain ⟨FS,hFS⟩ : ∃ FS,numsS wDirty (dirtyL s) = FS:=⟨_,rfl⟩
  rw [hFS] at HNN ⊢
  go_enter Tryz.func31,Tryz.ntmps31
  go_wp2_with fail
  refine (HCUT.out _).mono ?_;rintro e1 w1 ⟨v1,rfl,hx1,hS1⟩
  have X1 : Ext w w1:=ext_trans (ext_alloc (ext_alloc (ext_refl _) _) _) hx1
  have G2 : w1.heap[w.heap.size]? = some (.cells #[c.f4,c.d6] 42 (0,0)):=keep_ext hx1 (hg_alloc (hg_new rfl))
  have G4 : w1.heap[w.heap.size + 1]? = some (.cells #[.slice none 0 0,.slice none 0 0] 42 (0,0)):=keep_ext hx1 (hg_new (by simp))
  obtain ⟨wb,wo,wc,rfl,hwb,c0⟩:=HW0.out _ _ hS1
  have HS1:=Lib.hid hS1
  clear hx1 hS1
  go_wp2_with fail
  refine (HAT.out 1 (by omega) _ _ HS1.out).mono ?_;rintro e2 w2 ⟨rfl,hx2⟩
  have HS2:=Lib.hid (HS1.out.ext hx2)
  replace c0:=cell_ext hx2 c0
  replace G2:=keep_ext hx2 G2
  replace G4:=keep_ext hx2 G4
  have X2:=ext_trans X1 hx2
  have ho2:=HO.out.ext X2
  have HO2:=Lib.hid ho2
  rw [ha1]
  obtain ⟨g2,gf2⟩:=cellsK G2
  obtain ⟨g4,gf4⟩:=cellsK G4
  have l4:=heap_lt G4
  have l2:=heap_lt G2
  have lwb:=cell_lt c0
  clear hx2 X1 ho2 HS1 hwb
  have XA : Ext w2 (w2.alloc (.cells #[.int .i64 0,.int .i64 a1,.int .i64 0,.int .i64 60,.bool false] 83)):=ext_alloc (ext_refl _) _
  have G2A:=keep_ext XA G2
  have G4A:=keep_ext XA G4
  have OA:=HO2.out.ext XA
  have HOA:=Lib.hid OA
  clear OA g2 gf2 g4 gf4
  have lA:=heap_lt G4A
  go_wp2_with fail
  generalize w2.alloc (.cells #[.int .i64 0,.int .i64 a1,.int .i64 0,.int .i64 60,.bool false] 83) = wA at *
  have XA2:=ext_trans X2 XA
  refine wp_region_ext [2,3] [0,1,2,3] [] [4,5] (by kernel_rfl) (by kernel_rfl) ?late ?_
  case late=>exact fun f hf=>absurd hf List.not_mem_nil
  iterate 2
   refine Rob.y (v:=?_) rfl rfl (fun w1 hx hH=>?_) ?_;rotate_left
   ·(have hE : Ext wA w1:=(by first | exact hx | exact hx.1);obtain ⟨z2,zf2⟩:=cellsK (keep_ext hE G2A));go_simp;first | done | rfl
   simp only [Act.put,slA,slB,slC]
  refine Rob.c ((fun lo hi v w'=>Ints (Old w') w' v (dirtyL s))) rfl rfl rfl (fun _ _=>(by first | exact ext_trans | exact fun h k=>⟨ext_trans h.1 k,h.2.ext k⟩)) (fun _ _ _ _ _=>fun h hx=>h.ext hx) (fun w1 hx hH=>?_) (fun lo2 hi2 v2 hlo2 hhi2 hv2=>?_)
  ·unfold RunTo;go_simp;exact ((HDY.out _ (HOA.out.ext hx))).mono fun e w' h=>h.to
  simp only [Act.put,slA,slB,slC]
  obtain ⟨_,hv2⟩:=hv2
  obtain ⟨p2,q2,rfl⟩:=hv2.form
  refine Rob.cv (strV FS) rfl rfl rfl (fun _ _=>(by first | exact ext_trans | exact fun h k=>⟨ext_trans h.1 k,h.2.ext k⟩)) (fun w1 hx hH=>?_) (fun lo3 hi3 hlo3 hhi3=>?_)
  ·unfold RunTo;go_simp;exact (HNN.out _ _ hx.2).mono fun e w' h=>h.to
  simp only [Act.put,slA,slB,slC]
  refine fin_tail (fun w4 hx4 _=>?_)
  simp only [dstOf,List.getElem?_cons_succ,List.getElem?_cons_zero,Option.bind_some,Act.put,slA,slB,slC,List.filterMap_cons,List.filterMap_nil]
  have X4:=ext_trans XA2 hx4.1
  have G44:=keep_ext hx4.1 G4A
  have l44:=heap_lt G44
  obtain ⟨g44,gf44⟩:=cellsK G44
  refine wpList_plain rfl (fun K hK=>?_)
  go_simp
  refine hK _ _ ?_
  clear hK K
  refine wpList_plain rfl (fun K hK=>?_)
  go_simp
  refine hK _ _ ?_
  clear hK K
  refine wpList_nil ?_
  go_wp2_with fail
  refine bodyPost_ret (v:=.tuple #[.agg #[c.f4,c.d6],strV FS]) (by simp [results,Tryz.results31,go_sem,g44,gf44]) rfl ⟨rfl,?_,?_⟩
  ·have hc : Chg c.L w w4:=Chg.of_ext X4
   ((repeat (first | with_reducible (refine Chg.set2 ?_ ?_);focus (exact Or.inr (by dsimp only;omega)) | with_reducible refine Chg.alloc2 ?_));with_reducible exact hc)
  ·have ho:=HO.out.ext X4
   ((repeat (first | (with_reducible apply OwnS.set2;focus (exact HNB.out _ (by dsimp only;omega))) | with_reducible apply OwnS.alloc2));with_reducible exact ho)
 have hq8 : (w0 == [100,105,114,116,121]) = false:=beq_eq_false_iff_ne.2 c8
 rw [wd9 s (ws:=w0 :: rest) c1 c2 c3 c4 c5 c6 c7 c8]
 clear c1 c2 c3 c4 c5 c6 c7 c8
 go_enter Tryz.func31,Tryz.ntmps31
 go_wp2_with fail
 refine (HCUT.out _).mono ?_;rintro e1 w1 ⟨v1,rfl,hx1,hS1⟩
 have X1 : Ext w w1:=ext_trans (ext_alloc (ext_alloc (ext_refl _) _) _) hx1
 have G2 : w1.heap[w.heap.size]? = some (.cells #[c.f4,c.d6] 42 (0,0)):=keep_ext hx1 (hg_alloc (hg_new rfl))
 have G4 : w1.heap[w.heap.size + 1]? = some (.cells #[.slice none 0 0,.slice none 0 0] 42 (0,0)):=keep_ext hx1 (hg_new (by simp))
 obtain ⟨wb,wo,wc,rfl,hwb,c0⟩:=HW0.out _ _ hS1
 have HS1:=Lib.hid hS1
 clear hx1 hS1
 go_wp2_with fail
 refine (HAT.out 1 (by omega) _ _ HS1.out).mono ?_;rintro e2 w2 ⟨rfl,hx2⟩
 have HS2:=Lib.hid (HS1.out.ext hx2)
 replace c0:=cell_ext hx2 c0
 replace G2:=keep_ext hx2 G2
 replace G4:=keep_ext hx2 G4
 have X2:=ext_trans X1 hx2
 have ho2:=HO.out.ext X2
 have HO2:=Lib.hid ho2
 rw [ha1]
 obtain ⟨g2,gf2⟩:=cellsK G2
 obtain ⟨g4,gf4⟩:=cellsK G4
 have l4:=heap_lt G4
 have l2:=heap_lt G2
 have lwb:=cell_lt c0
 clear hx2 X1 ho2 HS1 hwb
 obtain ⟨w9,hw9,G49,C9⟩:=setsS G4 c.f4 c.d6
 have hc : Chg c.L w w9:=Chg.of_ext (C9.ext X2 (by simp))
 have ho : OwnS c w9 s:=HO2.out.chg C9 fun b hb hm=>by simp at hm;have:=HNB.out (w.heap.size + 1) (by omega);rw [hm] at hb;exact this hb
 obtain ⟨k9,kf9⟩:=cellsK G49
 have l9:=heap_lt G49
 go_wp2_with fail
 try rw [hw9]
 refine bodyPost_ret (v:=.tuple #[.agg #[c.f4,c.d6],strV wWhat]) (by simp [results,Tryz.results31,go_sem,k9,kf9,l9,wWhat]) rfl ⟨rfl,?_,?_⟩
 ·((repeat (first | with_reducible (refine Chg.set2 ?_ ?_);focus (exact Or.inr (by dsimp only;omega)) | with_reducible refine Chg.alloc2 ?_));with_reducible exact hc)
 ·((repeat (first | (with_reducible apply OwnS.set2;focus (exact HNB.out _ (by dsimp only;omega))) | with_reducible apply OwnS.alloc2));with_reducible exact ho)
end Go.Bu
namespace Go.Bu
open Go Go.RowKit Go.Plan Go.Proofs
theorem fold_len {α : Type} (g : α → Str) (m : Nat) : ∀ (xs : List α) (s : Str),(∀ x ∈ xs,(g x).length ≤ m) → (xs.foldl (fun s x=>s ++ g x) s).length ≤ s.length + m * xs.length
 | [],s,_=>by simp
 | x :: xs,s,h=>by
  have h1:=fold_len g m xs (s ++ g x) fun y hy=>h y (by simp [hy])
  have h2:=h x (by simp)
  rw [List.foldl_cons]
  rw [List.length_append] at h1
  rw [List.length_cons,Nat.mul_add]
  omega
theorem blockS_len {b : Block} (h4 : b.pages.length ≤ 4) (hp : ∀ p ∈ b.pages,PageT p) (hw : 0 ≤ b.worn ∧ b.worn < 100) : (blockS b).length ≤ 36:=by
 have h1:=fold_len pageS 8 b.pages (decI b.worn) fun p hm=>pageS_len (hp p hm)
 have h2:=decI_len (n:=b.worn) ⟨by omega,by omega⟩
 unfold blockS
 rw [List.length_append]
 have : 8 * b.pages.length ≤ 32:=by omega
 simp only [List.length_singleton]
 omega
theorem flashS_len {f : List Block} (h : FlashT f) : (flashS f).length ≤ 144:=by
 have h1:=fold_len blockS 36 f [] fun b hb=>blockS_len (h.pages b hb) (h.page b hb) (h.worn b hb)
 have:=h.len
 have : 36 * f.length ≤ 144:=by omega
 simp only [List.length_nil] at h1
 unfold flashS;omega
theorem numsS_len {w : Str} {xs : List Int} (h : ∀ n ∈ xs,Small3 n) (hl : xs.length ≤ 6) : (numsS w xs).length ≤ w.length + 25:=by
 have h1 : (xs.foldl (fun s n=>s ++ 32 :: decI n) w).length ≤ w.length + 4 * xs.length:=fold_len (fun n=>32 :: decI n) 4 xs w fun n hn=>by have:=decI_len (h n hn);simp;omega
 have e : numsS w xs = xs.foldl (fun s n=>s ++ 32 :: decI n) w ++ [10]:=rfl
 rw [e,List.length_append]
 have : 4 * xs.length ≤ 24:=by omega
 simp only [List.length_singleton]
 omega
theorem wordsDo_len {s : Store} (h : storeOkB s = true) (hw : ∀ b ∈ s.flash,b.worn ≤ 75) (ws : List Str) : (wordsDo s ws).2.length ≤ 200:=by
 have h1:=flashS_len (flashT_of h hw)
 have h2:=numsS_len (w:=wDisk) (disk_small h) (by have:=storeOk_disk h;omega)
 have h3:=numsS_len (w:=wDirty) (dirtyL_small s).1 (dirtyL_small s).2
 have e1 : wDisk.length = 4:=rfl
 have e2 : wDirty.length = 5:=rfl
 by_cases c1 : ws.headD [] = wPut
 ·rw [wd1 s c1];simp
 by_cases c2 : ws.headD [] = wFall
 ·rw [wd2 s c1 c2];simp
 by_cases c3 : ws.headD [] = wFlush
 ·rw [wd3 s c1 c2 c3];simp
 by_cases c4 : ws.headD [] = wFill
 ·rw [wd4 s c1 c2 c3 c4];simp
 by_cases c5 : ws.headD [] = wAll
 ·rw [wd5 s c1 c2 c3 c4 c5];simp
 by_cases c6 : ws.headD [] = wSee
 ·rw [wd6 s c1 c2 c3 c4 c5 c6];dsimp only;omega
 by_cases c7 : ws.headD [] = wDisk
 ·rw [wd7 s c1 c2 c3 c4 c5 c6 c7];dsimp only;omega
 by_cases c8 : ws.headD [] = wDirty
 ·rw [wd8 s c1 c2 c3 c4 c5 c6 c7 c8];dsimp only;omega
 ·rw [wd9 s c1 c2 c3 c4 c5 c6 c7 c8];show wWhat.length ≤ 200;decide
section
variable {P : Program} {Q : Exit → Act → World → Prop} {a : Act} {w : World}
theorem wp_region_HC (L : List Nat) {l : List Oper} {id : Nat} (hm : P.follows .mixedOrders = true) (h : ∀ w',Ext w w' → Chg L w w' → wpAnyH P .any l.toArray Q (Chg L w) l.toArray.size (Array.replicate l.toArray.size false) a w') : (Code.region id l.toArray true).wp P Q a w:=
 wp_region_held hm (h _ (ext_drew w) (Chg.of_ext (ext_drew w)))
end
theorem Chg.new {L : List Nat} {a b c : World} {x : Nat} (h : Chg L a b) (k : Chg [x] b c) (hx : a.heap.size ≤ x) : Chg L a c:=
 ⟨k.os.trans h.os,k.tape.trans h.tape,k.output.trans h.output,Nat.le_trans h.size k.size,fun i hi hn=>(k.block i (Nat.lt_of_lt_of_le hi h.size) (by simp;omega)).trans (h.block i hi hn)⟩
theorem cell_chg {L : List Nat} {W w : World} (h : Chg L W w) {b o : Nat} {v : Value} (hc : W.cell? ⟨b,o,none⟩ = some v) (hn : b ∉ L) : w.cell? ⟨b,o,none⟩ = some v:=by
 have:=h.block b (cell_lt hc) hn
 unfold World.cell? at *
 rw [this];exact hc
theorem lines_take (ls : List Str) (k : Nat) (h : k < ls.length) (r : Store × Str) : linesDo r (ls.take (k + 1)) = stepL (linesDo r (ls.take k)) ls[k]:=by
 rw [← take_snoc ls k h,linesDo_snoc]
theorem piece_len (ls : List Str) : ∀ x ∈ ls,x.length < sizeL ls:=by
 intro x hx
 induction ls with
 | nil=>cases hx
 | cons y ls ih =>
  rw [sizeL_cons]
  rcases List.mem_cons.1 hx with rfl | hx
  ·omega
  ·have:=ih hx;omega
theorem own_ints {w : World} {v : Value} {xs : List Int} {B : Nat} (h : OwnInts w v xs B) : Ints (Old w) w v xs:=IntsOut.ints (.inr ⟨B,Nat.zero_le _,h⟩ : IntsOut 0 w v xs)
theorem readN_small {s : Store} (h : storeOkB s = true) {n : Nat} (hn : n < 6) : Small3 (readN s n):=by
 have hF:=(storeOk_iff.1 h).ord.ok
 unfold readN
 split
 ·rename_i hq
  rcases last_ok hF ((n : Int) + 1) with h0 | ⟨h0,_⟩
  ·rw [h0] at hq;exact absurd hq (by decide)
  ·have:=recOkB_iff.1 h0
   exact ⟨by omega,by omega⟩
 ·have h6:=storeOk_disk h
  rw [List.getD_eq_getElem?_getD,List.getElem?_eq_getElem (by omega),Option.getD_some]
  exact disk_small h _ (List.getElem_mem _)
theorem allS_small {s : Store} (h : storeOkB s = true) : ∀ n ∈ allS s,Small3 n:=fun n hn=>by
 obtain ⟨k,hk,rfl⟩:=List.mem_map.1 hn
 exact readN_small h (by simpa using hk)
set_option maxRecDepth 20000 in
set_option maxHeartbeats 4000000 in
theorem specLinesRun_c (t : Str) (ht : t.length ≤ 2000000) (w : World) : Calls Tryz.prog 17 #[strV t] w (Ret w (strV (linesRun t))):=by
 by_cases h6 : 600 < t.length
 ·have e : linesRun t = wLong:=by unfold linesRun;rw [if_pos h6]
  rw [e]
  have h6' : (600 : Int) < (t.length : Int):=by omega
  go_enter Tryz.func17,Tryz.ntmps17
  go_wp2_with fail
  go_ret
  exact ⟨rfl,ext_refl _⟩
 ·have e : linesRun t = (runS t).2 ++ numsS wAll (allS (runS t).1):=by unfold linesRun;rw [if_neg h6]
  rw [e]
  have h6' : ¬ (600 : Int) < (t.length : Int):=by omega
  have hcut:=fun (w' : World)=>l1Cut_b t 10 (by omega) w'
  have hsz:=cut_lines (text:=t) (by omega)
  obtain ⟨ls,last,hls⟩ : ∃ ls last,cut 10 t = ls ++ [last]:=⟨_,_,(List.dropLast_concat_getLast (cut_ne 10 t)).symm⟩
  have hrun : runS t = linesDo (newStore,[]) ls:=by unfold runS;rw [hls,List.dropLast_concat]
  rw [hls,List.dropLast_concat] at hsz
  rw [hls] at hcut
  rw [hrun]
  have hbd:=fun (k : Nat)=>run_bound (ls:=ls.take k) (by have:=sizeL_take ls k;omega)
  have hll : ls.length ≤ 600:=by
   have : ∀ ws : List Str,ws.length ≤ sizeL ws:=by
    intro ws
    induction ws with
    | nil=>exact Nat.le_refl _
    | cons w ws ih=>rw [sizeL_cons,List.length_cons];omega
   have:=this ls;omega
  have hpl : ∀ x ∈ ls,x.length ≤ 600:=fun x hx=>by have:=piece_len ls x hx;omega
  have HBD:=Lib.hid hbd
  have HPL:=Lib.hid hpl
  have HCUT:=Lib.hid hcut
  clear hcut hbd hpl hsz hrun hls e h6
  go_enter Tryz.func17,Tryz.ntmps17
  go_wp2_with fail
  refine (specStoreNew_c _).mono ?_;rintro e1 u1 ⟨f,d,L,rfl,hx1,hO1,hn1,hb1⟩
  obtain ⟨c,rfl,rfl,rfl,hOS⟩:=hO1.at4 hn1 (storeOk_P storeOk_new)
  have HLB : Hid (∀ x ∈ c.L,w.heap.size ≤ x ∧ x < u1.heap.size):=Lib.hid fun x hm=>⟨hb1 x hm,hOS.lt x hm⟩
  have XA : Ext u1 (u1.alloc (.cells #[c.f4,c.d6] 42)):=ext_alloc (ext_refl _) _
  have G3 : (u1.alloc (.cells #[c.f4,c.d6] 42)).heap[u1.heap.size]? = some (.cells #[c.f4,c.d6] 42 (0,0)):=hg_new rfl
  have HOS:=Lib.hid hOS
  have HLB0 : Hid (w.heap.size ≤ u1.heap.size):=Lib.hid hx1.size
  clear hO1 hn1 hb1 hOS
  go_wp2_with fail
  refine (HCUT.out _).mono ?_;rintro e2 u2 ⟨v2,rfl,hx2,hS2⟩
  have X2 : Ext w u2:=ext_trans (ext_trans hx1 XA) hx2
  have G32:=keep_ext hx2 G3
  have HO2:=Lib.hid (HOS.out.ext (ext_trans XA hx2))
  have l3:=heap_lt G32
  have hS2' : Strs (fun b=>b ∉ c.L ∧ b ≠ u1.heap.size ∧ b < u2.heap.size) u2 v2 (ls ++ [last]):=Sl.same (plain_kept _) hS2 (fun _ _=>rfl) fun b hb=>⟨fun hm=>by have:=HLB.out b hm;have:=hb.1;simp at this;omega,by have:=hb.1;simp at this;omega,hb.2⟩
  obtain ⟨va,vc,rfl⟩:=hS2.form
  have HS2:=Lib.hid hS2'
  have hlen : (ls ++ [last]).length = ls.length + 1:=by simp
  rw [hlen] at HS2 ⊢
  clear hx1 hx2 hS2 hS2' G3 XA hlen HOS
  go_wp2_with fail
  go_loopw [4,6] (fun r y wr=>∃ (k : Nat) (Q : Str) (s1 : Store),k ≤ ls.length ∧ y = .int .i64 (k : Int) ∧ r = strV Q ∧ Q.length ≤ 200 * k ∧ Hid (linesDo (newStore,[]) (ls.take k) = (s1,Q)) ∧ Chg (u1.heap.size :: c.L) u2 wr ∧ OwnS c wr s1 ∧ wr.heap[u1.heap.size]? = some (.cells #[c.f4,c.d6] 42 (0,0))) (fun _ y _=>ls.length - (intOf y).toNat)
  case atStart=>exact ⟨0,[],newStore,by omega,rfl,rfl,by simp,Lib.hid rfl,Chg.refl _ _,HO2.out,G32⟩
  case round =>
   obtain ⟨k,Q,s1,hk,rfl,rfl,hql,HR,hC,hO,G3⟩:=hrel
   have l3r:=heap_lt G3
   have hn3 : u1.heap.size ∉ c.L:=fun hm=>by have:=(HLB.out _ hm).2;omega
   obtain ⟨g3,gf3⟩:=cellsK G3
   by_cases hlt : k < ls.length
   ·have hb:=HBD.out k
    rw [HR.out] at hb
    dsimp only at hb
    have hstep:=lines_take ls k hlt (newStore,[])
    rw [HR.out,stepL_eq] at hstep
    dsimp only at hstep
    obtain ⟨b,o,rfl,hbD,hc0⟩:=HS2.out.at1 (k:=k) (by simp;omega)
    rw [List.getElem_append_left hlt] at hc0
    have hll1:=HPL.out _ (List.getElem_mem hlt)
    have hc1:=cell_chg hC hc0 (by simp;exact ⟨hbD.2.1,hbD.1⟩)
    have hline:=fun (w' : World) (ho : OwnS c w' s1)=>l31Line_c c s1 _ w' ho hb.1 (fun b hm=>(hb.2.1 b hm).2) (show ls[k].length ≤ 1000 by omega)
    have hal:=wordsDo_len (s:=s1) hb.1 (fun b hm=>(hb.2.1 b hm).2) (cut 32 ls[k])
    rw [show wordsDo s1 (cut 32 ls[k]) = lineDo s1 ls[k] from rfl] at hal
    generalize ls[k] = l at *
    obtain ⟨s2,A,hA⟩ : ∃ s2 A,lineDo s1 l = (s2,A):=⟨_,_,rfl⟩
    rw [hA] at hline hstep hal
    dsimp only at hstep hal
    have HLN:=Lib.hid hline;have HST:=Lib.hid hstep
    have hadd:=str_add (P:=Tryz.prog) Q A (by omega)
    have hl2 : (Q ++ A).length ≤ 200 * (k + 1):=by simp;omega
    have HL2:=Lib.hid hl2
    have hix : (k : Int) < (ls.length : Int) + 1:=by omega
    clear hline hstep hA hb hll1 HR hl2
    go_wp2_with fail
    refine wp_region_HC (c.L) (by kernel_rfl) (fun w0 hxx hx0=>?_)
    replace hO:=hO.ext hxx
    clear hxx
    refine wpAnyH_take (i:=0) (v:=?_) rfl (by kernel_rfl) (by kernel_rfl) (by kernel_rfl) (fun _ _ _ h=>h) (Or.inl ⟨by rfl,fun w1 hx=>?_⟩) hx0 ?_;rotate_left
    ·(obtain ⟨z3,zf3⟩:=cellsK (hx.keep G3 hn3);have zc:=cell_chg hx hc1 hbD.1);go_simp;first | done | rfl
    simp only [Act.put,List.getElem_toArray,List.getElem_cons_succ,List.getElem_cons_zero,slA,slB,slC]
    refine wpAnyH_take (i:=1) (v:=?_) rfl (by kernel_rfl) (by kernel_rfl) (by kernel_rfl) (fun _ _ _ h=>h) (Or.inl ⟨by rfl,fun w1 hx=>?_⟩) hx0 ?_;rotate_left
    ·go_simp;first | done | rfl
    simp only [Act.put,List.getElem_toArray,List.getElem_cons_succ,List.getElem_cons_zero,slA,slB,slC]
    refine wpAnyH_take (i:=2) (v:=?_) rfl (by kernel_rfl) (by kernel_rfl) (by kernel_rfl) (fun _ _ _ h=>h) (Or.inl ⟨by rfl,fun w1 hx=>?_⟩) hx0 ?_;rotate_left
    ·go_simp;first | done | rfl
    simp only [Act.put,List.getElem_toArray,List.getElem_cons_succ,List.getElem_cons_zero,slA,slB,slC]
    refine wpAnyH_take (i:=3) (v:=?_) rfl (by kernel_rfl) (by kernel_rfl) (by kernel_rfl) (fun _ _ _ h=>h) (Or.inl ⟨by rfl,fun w1 hx=>?_⟩) hx0 ?_;rotate_left
    ·go_simp;first | done | rfl
    simp only [Act.put,List.getElem_toArray,List.getElem_cons_succ,List.getElem_cons_zero,slA,slB,slC]
    refine wpAnyH_take (i:=4) (v:=?_) rfl (by kernel_rfl) (by kernel_rfl) (by kernel_rfl) (fun _ _ _ h=>h) (Or.inl ⟨by rfl,fun w1 hx=>?_⟩) hx0 ?_;rotate_left
    ·(obtain ⟨z3,zf3⟩:=cellsK (hx.keep G3 hn3);have zc:=cell_chg hx hc1 hbD.1);go_simp;first | done | rfl
    simp only [Act.put,List.getElem_toArray,List.getElem_cons_succ,List.getElem_cons_zero,slA,slB,slC]
    refine wpAnyH_all (rs:=[5,9]) (by kernel_rfl) (by simp) (fun i hi=>?_)
    simp only [List.mem_cons,List.not_mem_nil,or_false] at hi
    rcases hi with rfl | rfl
    focus
     refine anyH_op (R:=fun v w'=>v = .tuple #[.agg #[c.f4,c.d6],strV A] ∧ Chg c.L w0 w' ∧ OwnS c w' s2) rfl rfl ?_ (fun v w1 hR=>?_)
     ·unfold RunTo;go_simp;exact (HLN.out _ hO).mono fun e w' h=>⟨_,h.1,rfl,h.2.1,h.2.2⟩
     obtain ⟨rfl,hC5,hO5⟩:=hR
     have hx1:=hx0.trans hC5
     clear hC5 hO
     have hO:=hO5
     clear hO5
     refine ⟨hx1,?_⟩
     simp only [Act.put,List.getElem_toArray,List.getElem_cons_succ,List.getElem_cons_zero,slA,slB,slC]
     refine wpAnyH_take (i:=6) (v:=?_) rfl (by kernel_rfl) (by kernel_rfl) (by kernel_rfl) (fun _ _ _ h=>h) (Or.inl ⟨by rfl,fun w1 hx=>?_⟩) hx1 ?_;rotate_left
     ·go_simp;first | done | rfl
     simp only [Act.put,List.getElem_toArray,List.getElem_cons_succ,List.getElem_cons_zero,slA,slB,slC]
     refine wpAnyH_take (i:=7) (v:=?_) rfl (by kernel_rfl) (by kernel_rfl) (by kernel_rfl) (fun _ _ _ h=>h) (Or.inl ⟨by rfl,fun w1 hx=>?_⟩) hx1 ?_;rotate_left
     ·go_simp;first | done | rfl
     simp only [Act.put,List.getElem_toArray,List.getElem_cons_succ,List.getElem_cons_zero,slA,slB,slC]
     refine wpAnyH_take (i:=8) (v:=?_) rfl (by kernel_rfl) (by kernel_rfl) (by kernel_rfl) (fun _ _ _ h=>h) (Or.inl ⟨by rfl,fun w1 hx=>?_⟩) hx1 ?_;rotate_left
     ·go_simp;first | done | rfl
     simp only [Act.put,List.getElem_toArray,List.getElem_cons_succ,List.getElem_cons_zero,slA,slB,slC]
     refine wpAnyH_all (rs:=[9]) (by kernel_rfl) (by simp) (fun i hi=>?_)
     simp only [List.mem_cons,List.not_mem_nil,or_false] at hi
     subst hi
     refine anyH_alloc (.cells #[.slice none 0 0,.slice none 0 0] 42) (fun b=>.pointer (some ⟨b,0,none⟩)) rfl rfl ?_ (fun w1 hx=>hx1.trans (Chg.of_ext hx)) (fun w2 b9 hxx hb9 hob9 hx2=>?_)
     ·go_simp
     have hbs9:=Nat.le_trans hx1.size hb9
     replace hO:=hO.ext hxx
     clear hxx
     simp only [Act.put,List.getElem_toArray,List.getElem_cons_succ,List.getElem_cons_zero,slA,slB,slC]
     refine wpAnyH_all (rs:=[10]) (by kernel_rfl) (by simp) (fun i hi=>?_)
     simp only [List.mem_cons,List.not_mem_nil,or_false] at hi
     subst hi
     refine anyH_op (R:=fun v w'=>(w2.setCell ⟨b9,0,none⟩ c.f4).setCell ⟨b9,1,none⟩ c.d6 = w') rfl rfl ?_ (fun v w3 hR=>?_)
     ·unfold RunTo;obtain ⟨z,zf⟩:=cellsK hob9;go_simp
     obtain ⟨w9,hw9,hob',C9⟩:=setsS hob9 c.f4 c.d6
     rw [hw9] at hR
     subst hR
     have hx3:=hx2.new C9 hbs9
     replace hO:=hO.chg C9 (fun b hm hb=>by have:=(HLB.out _ hm).2;simp at hb;omega)
     clear hob9 C9 hw9
     refine ⟨hx3,?_⟩
     simp only [Act.put,List.getElem_toArray,List.getElem_cons_succ,List.getElem_cons_zero,slA,slB,slC]
     refine wpAnyH_take (i:=11) (v:=?_) rfl (by kernel_rfl) (by kernel_rfl) (by kernel_rfl) (fun _ _ _ h=>h) (Or.inl ⟨by rfl,fun w1 hx=>?_⟩) hx3 ?_;rotate_left
     ·go_simp;first | done | rfl
     simp only [Act.put,List.getElem_toArray,List.getElem_cons_succ,List.getElem_cons_zero,slA,slB,slC]
     refine wpAnyH_done (by kernel_rfl) ?_ _
     have hob9:=hob'
     clear hob'
     obtain ⟨z9,zf9⟩:=cellsK hob9
     have HXF:=hx3
     have G3F:=hx3.keep G3 hn3
     clear g3 gf3
     obtain ⟨z3,zf3⟩:=cellsK G3F
     obtain ⟨w8,hw8,G38,C8⟩:=setsS G3F c.f4 c.d6
     have hCr:=hC.trans (Chg.mono HXF fun x hx=>List.mem_cons_of_mem _ hx)
     have hCr2:=hCr.trans (C8.mono fun x hx=>by simp at hx;simp [hx])
     have hO8:=hO.chg C8 (fun b hm hb=>by simp at hb;rw [hb] at hm;exact hn3 hm)
     go_wp2_with fail
     go_roundw
     case rel=>exact ⟨k + 1,_,s2,by omega,by go_num,rfl,HL2.out,HST,hCr2,hO8,G38⟩
     case measure=>simp [intOf];omega
    focus
     refine anyH_alloc (.cells #[.slice none 0 0,.slice none 0 0] 42) (fun b=>.pointer (some ⟨b,0,none⟩)) rfl rfl ?_ (fun w1 hx=>hx0.trans (Chg.of_ext hx)) (fun w1 b9 hxx hb9 hob9 hx1=>?_)
     ·go_simp
     have hbs9:=Nat.le_trans hx0.size hb9
     replace hO:=hO.ext hxx
     clear hxx
     simp only [Act.put,List.getElem_toArray,List.getElem_cons_succ,List.getElem_cons_zero,slA,slB,slC]
     refine wpAnyH_all (rs:=[5]) (by kernel_rfl) (by simp) (fun i hi=>?_)
     simp only [List.mem_cons,List.not_mem_nil,or_false] at hi
     subst hi
     refine anyH_op (R:=fun v w'=>v = .tuple #[.agg #[c.f4,c.d6],strV A] ∧ Chg c.L w1 w' ∧ OwnS c w' s2) rfl rfl ?_ (fun v w2 hR=>?_)
     ·unfold RunTo;go_simp;exact (HLN.out _ hO).mono fun e w' h=>⟨_,h.1,rfl,h.2.1,h.2.2⟩
     obtain ⟨rfl,hC5,hO5⟩:=hR
     replace hob9:=hC5.keep hob9 (fun hm=>by have:=(HLB.out _ hm).2;have:=hx1.size;omega)
     have hx2:=hx1.trans hC5
     clear hC5 hO
     have hO:=hO5
     clear hO5
     refine ⟨hx2,?_⟩
     simp only [Act.put,List.getElem_toArray,List.getElem_cons_succ,List.getElem_cons_zero,slA,slB,slC]
     refine wpAnyH_take (i:=6) (v:=?_) rfl (by kernel_rfl) (by kernel_rfl) (by kernel_rfl) (fun _ _ _ h=>h) (Or.inl ⟨by rfl,fun w1 hx=>?_⟩) hx2 ?_;rotate_left
     ·go_simp;first | done | rfl
     simp only [Act.put,List.getElem_toArray,List.getElem_cons_succ,List.getElem_cons_zero,slA,slB,slC]
     refine wpAnyH_take (i:=7) (v:=?_) rfl (by kernel_rfl) (by kernel_rfl) (by kernel_rfl) (fun _ _ _ h=>h) (Or.inl ⟨by rfl,fun w1 hx=>?_⟩) hx2 ?_;rotate_left
     ·go_simp;first | done | rfl
     simp only [Act.put,List.getElem_toArray,List.getElem_cons_succ,List.getElem_cons_zero,slA,slB,slC]
     refine wpAnyH_take (i:=8) (v:=?_) rfl (by kernel_rfl) (by kernel_rfl) (by kernel_rfl) (fun _ _ _ h=>h) (Or.inl ⟨by rfl,fun w1 hx=>?_⟩) hx2 ?_;rotate_left
     ·go_simp;first | done | rfl
     simp only [Act.put,List.getElem_toArray,List.getElem_cons_succ,List.getElem_cons_zero,slA,slB,slC]
     refine wpAnyH_all (rs:=[10]) (by kernel_rfl) (by simp) (fun i hi=>?_)
     simp only [List.mem_cons,List.not_mem_nil,or_false] at hi
     subst hi
     refine anyH_op (R:=fun v w'=>(w2.setCell ⟨b9,0,none⟩ c.f4).setCell ⟨b9,1,none⟩ c.d6 = w') rfl rfl ?_ (fun v w3 hR=>?_)
     ·unfold RunTo;obtain ⟨z,zf⟩:=cellsK hob9;go_simp
     obtain ⟨w9,hw9,hob',C9⟩:=setsS hob9 c.f4 c.d6
     rw [hw9] at hR
     subst hR
     have hx3:=hx2.new C9 hbs9
     replace hO:=hO.chg C9 (fun b hm hb=>by have:=(HLB.out _ hm).2;simp at hb;omega)
     clear hob9 C9 hw9
     refine ⟨hx3,?_⟩
     simp only [Act.put,List.getElem_toArray,List.getElem_cons_succ,List.getElem_cons_zero,slA,slB,slC]
     refine wpAnyH_take (i:=11) (v:=?_) rfl (by kernel_rfl) (by kernel_rfl) (by kernel_rfl) (fun _ _ _ h=>h) (Or.inl ⟨by rfl,fun w1 hx=>?_⟩) hx3 ?_;rotate_left
     ·go_simp;first | done | rfl
     simp only [Act.put,List.getElem_toArray,List.getElem_cons_succ,List.getElem_cons_zero,slA,slB,slC]
     refine wpAnyH_done (by kernel_rfl) ?_ _
     have hob9:=hob'
     clear hob'
     obtain ⟨z9,zf9⟩:=cellsK hob9
     have HXF:=hx3
     have G3F:=hx3.keep G3 hn3
     clear g3 gf3
     obtain ⟨z3,zf3⟩:=cellsK G3F
     obtain ⟨w8,hw8,G38,C8⟩:=setsS G3F c.f4 c.d6
     have hCr:=hC.trans (Chg.mono HXF fun x hx=>List.mem_cons_of_mem _ hx)
     have hCr2:=hCr.trans (C8.mono fun x hx=>by simp at hx;simp [hx])
     have hO8:=hO.chg C8 (fun b hm hb=>by simp at hb;rw [hb] at hm;exact hn3 hm)
     go_wp2_with fail
     go_roundw
     case rel=>exact ⟨k + 1,_,s2,by omega,by go_num,rfl,HL2.out,HST,hCr2,hO8,G38⟩
     case measure=>simp [intOf];omega
   ·obtain rfl : k = ls.length:=by omega
    rw [List.take_length] at HR
    have hst:=HBD.out ls.length
    rw [List.take_length] at hst
    rw [HR.out] at hst
    dsimp only at hst
    have hfin : (linesDo (newStore,[]) ls).2 ++ numsS wAll (allS (linesDo (newStore,[]) ls).1) = Q ++ numsS wAll (allS s1):=by rw [HR.out]
    have hXW : Ext w wr:=hC.ext X2 fun x hm=>by
     rcases List.mem_cons.1 hm with rfl | hm
     ·exact HLB0.out
     ·exact (HLB.out x hm).1
    have hrd:=allS_len s1
    have hsm:=allS_small hst.1
    have hnl : (numsS wAll (allS s1)).length ≤ 40:=by have:=numsS_len (w:=wAll) hsm (by omega);have : wAll.length = 3:=rfl;omega
    have hadd:=str_add (P:=Tryz.prog) Q (numsS wAll (allS s1)) (by omega)
    have hnums:=fun (v : Value) (w' : World) (h : Ints (Old w') w' v (allS s1))=>l31Nums_c wAll v (allS s1) w' h hsm (by omega) (by decide)
    have hval : allV s1 = allS s1:=by unfold allV;rw [if_pos hst.1]
    have hsa:=fun (w' : World) (hx : Ext wr w')=>specStoreAll_c c.f4 c.d6 s1 w' ((hO.ext hx).at4 (storeOk_P hst.1)) (by have:=flashOk_len (storeOk_flash hst.1);omega)
    rw [hval] at hsa
    clear hval hsm hst
    generalize allS s1 = AL at *
    generalize numsS wAll AL = NS at *
    have HFIN:=Lib.hid hfin;clear hfin
    go_wp2_with fail
    refine (hsa _ (ext_refl _)).mono ?_;rintro e5 w5 ⟨v5,B5,rfl,hx5,hB5,hI5⟩
    go_wp2_with fail
    refine (hnums _ _ (own_ints hI5)).mono ?_;rintro e6 w6 ⟨rfl,hx6⟩
    have XF:=ext_trans hXW (ext_trans hx5 hx6)
    go_wp2_with fail
    exact bodyPost_ret (v:=strV (Q ++ NS)) (by simp [results,Tryz.results17,go_sem]) rfl ⟨by rw [HFIN.out],XF⟩
end Go.Bu