/- DERIVED: THE SHELF's CONTRACTS AT THIS DUMP, IN PLAIN WORDS (tools/lay-plain.mjs out of 'TryzS.lean', which tools/lay-shelf.mjs wrote): THE SAME DECLARATIONS UNDER THE SAME NAMES: 'import', 'namespace', 'open', 'def', 'theorem' AND NOTHING ELSE: no command of the shelf's: FOR A HAND-IN. Each laying: the table of numbers ('.._ren') and one theorem, a field a fact of the dump's own or the kernel's comparison; each contract: ONE APPLICATION. What a store reads as, wherever the steps of a write end. -/import Derived.Shelf.LaysM
import Derived.Shelf.Strconv.Itoa3
import Derived.Shelf.Strings.Split
import Derived.Shelf.Strings.SplitShaped
import Derived.Test.YtoekfnjeceijaaaGreatDoorProg
import Derived.Test.YtoekfnjeceijaaaGreatDoorZ5
set_option maxHeartbeats 2000000
namespace Go.Proofs
open Go.Shelf
def Tryz.lays171_ren : Go.Shelf.Ren:=⟨fun | 171=>43 | 243=>60 | 246=>82 | 283=>100 | 284=>101 | 285=>102 | 286=>103 | 129=>123 | 317=>122 | 318=>124 | 319=>125 | 320=>126 | 337=>142 | 338=>143 | n=>n,fun | 3=>3 | 9=>9 | 2=>2 | 4=>4 | 171=>151 | 0=>0 | 53=>152 | 37=>22 | 5=>5 | 173=>155 | 212=>172 | 51=>173 | 20=>20 | 213=>174 | 46=>167 | 232=>210 | 233=>211 | n=>n,fun | 17=>2 | 18=>5 | 19=>6 | n=>n⟩
theorem Tryz.lays171 : Go.Proofs.Lays.n171 Tryz.prog Tryz.lays171_ren:={
 mixed:=by kernel_rfl
 f129:=Tryz.func123.trans (congrArg some (by kernel_rfl))
 f171:=Tryz.func43.trans (congrArg some (by kernel_rfl))
 f243:=Tryz.func60.trans (congrArg some (by kernel_rfl))
 f246:=Tryz.func82.trans (congrArg some (by kernel_rfl))
 f283:=Tryz.func100.trans (congrArg some (by kernel_rfl))
 f284:=Tryz.func101.trans (congrArg some (by kernel_rfl))
 f285:=Tryz.func102.trans (congrArg some (by kernel_rfl))
 f286:=Tryz.func103.trans (congrArg some (by kernel_rfl))
 f317:=Tryz.func122.trans (congrArg some (by kernel_rfl))
 f318:=Tryz.func124.trans (congrArg some (by kernel_rfl))
 f319:=Tryz.func125.trans (congrArg some (by kernel_rfl))
 f320:=Tryz.func126.trans (congrArg some (by kernel_rfl))
 f337:=Tryz.func142.trans (congrArg some (by kernel_rfl))
 f338:=Tryz.func143.trans (congrArg some (by kernel_rfl))
 t0:=Tryz.underlying0
 a0:=Tryz.isAgg0
 z0:=Tryz.sizeOf0
 v0:=Tryz.zeroValue0
 t2:=Tryz.underlying2
 a2:=Tryz.isAgg2
 z2:=Tryz.sizeOf2
 v2:=Tryz.zeroValue2
 t3:=Tryz.underlying3
 a3:=Tryz.isAgg3
 z3:=Tryz.sizeOf3
 v3:=Tryz.zeroValue3
 t4:=Tryz.underlying4
 a4:=Tryz.isAgg4
 z4:=Tryz.sizeOf4
 v4:=Tryz.zeroValue4
 t5:=Tryz.underlying5
 a5:=Tryz.isAgg5
 z5:=Tryz.sizeOf5
 v5:=Tryz.zeroValue5
 t9:=Tryz.underlying9
 a9:=Tryz.isAgg9
 z9:=Tryz.sizeOf9
 v9:=Tryz.zeroValue9
 t20:=Tryz.underlying20
 a20:=Tryz.isAgg20
 z20:=Tryz.sizeOf20
 v20:=Tryz.zeroValue20
 t37:=Tryz.underlying22
 a37:=Tryz.isAgg22
 z37:=Tryz.sizeOf22
 v37:=Tryz.zeroValue22
 t46:=Tryz.underlying167
 a46:=Tryz.isAgg167
 z46:=Tryz.sizeOf167
 v46:=Tryz.zeroValue167
 t51:=Tryz.underlying173
 a51:=Tryz.isAgg173
 z51:=Tryz.sizeOf173
 v51:=Tryz.zeroValue173
 t53:=Tryz.underlying152
 a53:=Tryz.isAgg152
 z53:=Tryz.sizeOf152
 v53:=Tryz.zeroValue152
 t171:=Tryz.underlying151
 a171:=Tryz.isAgg151
 z171:=Tryz.sizeOf151
 v171:=Tryz.zeroValue151
 t173:=Tryz.underlying155
 a173:=Tryz.isAgg155
 z173:=Tryz.sizeOf155
 v173:=Tryz.zeroValue155
 t212:=Tryz.underlying172
 a212:=Tryz.isAgg172
 z212:=Tryz.sizeOf172
 v212:=Tryz.zeroValue172
 t213:=Tryz.underlying174
 a213:=Tryz.isAgg174
 z213:=Tryz.sizeOf174
 t232:=Tryz.underlying210
 a232:=Tryz.isAgg210
 z232:=Tryz.sizeOf210
 v232:=Tryz.zeroValue210
 t233:=Tryz.underlying211
 a233:=Tryz.isAgg211
 z233:=Tryz.sizeOf211
 v233:=Tryz.zeroValue211
 g17:=by kernel_rfl
 g18:=by kernel_rfl
 g19:=by kernel_rfl }
open Go.RowKit Go.Sort Go.Lib in
theorem Tryz.strconv_Itoa_small (i : Nat) (hi : i < 100) (w : World) :
  Calls Tryz.prog 43 #[.int .i64 i] w fun e w'=>e = .returned (.string ⟨(Lib.decDigits i).toArray⟩) ∧ w' = w:=Any.strconv_Itoa_small Tryz.lays171 i hi w
def Tryz.lays146_ren : Go.Shelf.Ren:=⟨fun | 146=>36 | 221=>53 | 268=>74 | 138=>75 | 143=>76 | 195=>95 | 197=>96 | 218=>97 | 219=>98 | 260=>113 | 217=>114 | 225=>115 | 224=>116 | 267=>117 | 266=>132 | 314=>133 | n=>n,fun | 9=>9 | 31=>25 | 3=>3 | 4=>4 | 0=>0 | 105=>145 | 21=>21 | 5=>5 | 46=>167 | 119=>180 | 139=>183 | 138=>182 | 146=>184 | 51=>173 | n=>n,fun | 1=>1 | 3=>3 | 4=>4 | n=>n⟩
theorem Tryz.lays146 : Go.Proofs.Lays.n146 Tryz.prog Tryz.lays146_ren:={
 mixed:=by kernel_rfl
 f138:=Tryz.func75.trans (congrArg some (by kernel_rfl))
 f143:=Tryz.func76.trans (congrArg some (by kernel_rfl))
 f146:=Tryz.func36.trans (congrArg some (by kernel_rfl))
 f195:=Tryz.func95.trans (congrArg some (by kernel_rfl))
 f197:=Tryz.func96.trans (congrArg some (by kernel_rfl))
 f217:=Tryz.func114.trans (congrArg some (by kernel_rfl))
 f218:=Tryz.func97.trans (congrArg some (by kernel_rfl))
 f219:=Tryz.func98.trans (congrArg some (by kernel_rfl))
 f221:=Tryz.func53.trans (congrArg some (by kernel_rfl))
 f224:=Tryz.func116.trans (congrArg some (by kernel_rfl))
 f225:=Tryz.func115.trans (congrArg some (by kernel_rfl))
 f260:=Tryz.func113.trans (congrArg some (by kernel_rfl))
 f266:=Tryz.func132.trans (congrArg some (by kernel_rfl))
 f267:=Tryz.func117.trans (congrArg some (by kernel_rfl))
 f268:=Tryz.func74.trans (congrArg some (by kernel_rfl))
 f314:=Tryz.func133.trans (congrArg some (by kernel_rfl))
 t0:=Tryz.underlying0
 a0:=Tryz.isAgg0
 z0:=Tryz.sizeOf0
 v0:=Tryz.zeroValue0
 t3:=Tryz.underlying3
 a3:=Tryz.isAgg3
 z3:=Tryz.sizeOf3
 v3:=Tryz.zeroValue3
 t4:=Tryz.underlying4
 a4:=Tryz.isAgg4
 z4:=Tryz.sizeOf4
 v4:=Tryz.zeroValue4
 t5:=Tryz.underlying5
 a5:=Tryz.isAgg5
 z5:=Tryz.sizeOf5
 v5:=Tryz.zeroValue5
 t9:=Tryz.underlying9
 a9:=Tryz.isAgg9
 z9:=Tryz.sizeOf9
 v9:=Tryz.zeroValue9
 t21:=Tryz.underlying21
 a21:=Tryz.isAgg21
 z21:=Tryz.sizeOf21
 v21:=Tryz.zeroValue21
 t31:=Tryz.underlying25
 a31:=Tryz.isAgg25
 z31:=Tryz.sizeOf25
 v31:=Tryz.zeroValue25
 t46:=Tryz.underlying167
 a46:=Tryz.isAgg167
 z46:=Tryz.sizeOf167
 v46:=Tryz.zeroValue167
 t51:=Tryz.underlying173
 a51:=Tryz.isAgg173
 z51:=Tryz.sizeOf173
 v51:=Tryz.zeroValue173
 t105:=Tryz.underlying145
 a105:=Tryz.isAgg145
 z105:=Tryz.sizeOf145
 v105:=Tryz.zeroValue145
 t119:=Tryz.underlying180
 a119:=Tryz.isAgg180
 z119:=Tryz.sizeOf180
 t138:=Tryz.underlying182
 a138:=Tryz.isAgg182
 z138:=Tryz.sizeOf182
 v138:=Tryz.zeroValue182
 t139:=Tryz.underlying183
 a139:=Tryz.isAgg183
 z139:=Tryz.sizeOf183
 v139:=Tryz.zeroValue183
 t146:=Tryz.underlying184
 a146:=Tryz.isAgg184
 z146:=Tryz.sizeOf184
 v146:=Tryz.zeroValue184
 g1:=by kernel_rfl
 g3:=by kernel_rfl
 g4:=by kernel_rfl }
open Go.RowKit Go.Lib in
theorem Tryz.strings_Split (s sep : ByteArray) (m : Int) (w : World) (hs : s.size < 4294967281) (hm : w.cell? ⟨1,0,none⟩ = some (.int .i64 m)) (h1 : 1 ≤ sep.size) :
  Calls Tryz.prog 36 #[.string s,.string sep] w fun e w' =>
   e = .returned (.slice (some ⟨w.heap.size,0,none⟩) (Lib.countB s sep + 1) (Lib.countB s sep + 1)) ∧ w' = w.alloc (.cells ((Lib.splitB sep 0 (Lib.countB s sep) s).map Value.string).toArray 9):=Any.strings_Split Tryz.lays146 (by kernel_rfl) s sep m w hs hm h1
def Tryz.laysM146_ren : Go.Shelf.Ren:=⟨fun | 146=>36 | 221=>53 | 268=>74 | 138=>75 | 143=>76 | 195=>95 | 197=>96 | 218=>97 | 219=>98 | 260=>113 | 217=>114 | 225=>115 | 224=>116 | 267=>117 | 266=>132 | 314=>133 | n=>n,fun | 9=>9 | 31=>25 | 3=>3 | 4=>4 | 0=>0 | 105=>145 | 21=>21 | 5=>5 | 46=>167 | 119=>180 | 139=>183 | 138=>182 | 146=>184 | 51=>173 | n=>n,fun | 1=>1 | 3=>3 | 4=>4 | n=>n⟩
theorem Tryz.laysM146 : Go.Proofs.LaysM.n146 Tryz.prog Tryz.laysM146_ren:={
 mixed:=by kernel_rfl
 f138:=Tryz.func75.trans (congrArg some (by kernel_rfl))
 f143:=Tryz.func76.trans (congrArg some (by kernel_rfl))
 f146:=Tryz.func36.trans (congrArg some (by kernel_rfl))
 f195:=Tryz.func95.trans (congrArg some (by kernel_rfl))
 f197:=Tryz.func96.trans (congrArg some (by kernel_rfl))
 f217:=Tryz.func114.trans (congrArg some (by kernel_rfl))
 f218:=Tryz.func97.trans (congrArg some (by kernel_rfl))
 f219:=Tryz.func98.trans (congrArg some (by kernel_rfl))
 f221:=Tryz.func53.trans (congrArg some (by kernel_rfl))
 f224:=Tryz.func116.trans (congrArg some (by kernel_rfl))
 f225:=Tryz.func115.trans (congrArg some (by kernel_rfl))
 f260:=Tryz.func113.trans (congrArg some (by kernel_rfl))
 f266:=Tryz.func132.trans (congrArg some (by kernel_rfl))
 f267:=Tryz.func117.trans (congrArg some (by kernel_rfl))
 f268:=Tryz.func74.trans (congrArg some (by kernel_rfl))
 f314:=Tryz.func133.trans (congrArg some (by kernel_rfl))
 t0:=Tryz.underlying0
 a0:=Tryz.isAgg0
 z0:=Tryz.sizeOf0
 v0:=Tryz.zeroValue0
 t3:=Tryz.underlying3
 a3:=Tryz.isAgg3
 z3:=Tryz.sizeOf3
 v3:=Tryz.zeroValue3
 t4:=Tryz.underlying4
 a4:=Tryz.isAgg4
 z4:=Tryz.sizeOf4
 v4:=Tryz.zeroValue4
 t5:=Tryz.underlying5
 a5:=Tryz.isAgg5
 z5:=Tryz.sizeOf5
 v5:=Tryz.zeroValue5
 t9:=Tryz.underlying9
 a9:=Tryz.isAgg9
 z9:=Tryz.sizeOf9
 v9:=Tryz.zeroValue9
 t21:=Tryz.underlying21
 a21:=Tryz.isAgg21
 z21:=Tryz.sizeOf21
 v21:=Tryz.zeroValue21
 t31:=Tryz.underlying25
 a31:=Tryz.isAgg25
 z31:=Tryz.sizeOf25
 v31:=Tryz.zeroValue25
 t46:=Tryz.underlying167
 a46:=Tryz.isAgg167
 z46:=Tryz.sizeOf167
 v46:=Tryz.zeroValue167
 t51:=Tryz.underlying173
 a51:=Tryz.isAgg173
 z51:=Tryz.sizeOf173
 v51:=Tryz.zeroValue173
 t105:=Tryz.underlying145
 a105:=Tryz.isAgg145
 z105:=Tryz.sizeOf145
 v105:=Tryz.zeroValue145
 t119:=Tryz.underlying180
 a119:=Tryz.isAgg180
 z119:=Tryz.sizeOf180
 t138:=Tryz.underlying182
 a138:=Tryz.isAgg182
 z138:=Tryz.sizeOf182
 v138:=Tryz.zeroValue182
 t139:=Tryz.underlying183
 a139:=Tryz.isAgg183
 z139:=Tryz.sizeOf183
 v139:=Tryz.zeroValue183
 t146:=Tryz.underlying184
 a146:=Tryz.isAgg184
 z146:=Tryz.sizeOf184
 v146:=Tryz.zeroValue184
 g1:=by kernel_rfl
 g3:=by kernel_rfl
 g4:=by kernel_rfl
 i0:=by kernel_rfl
 i3:=by kernel_rfl
 i4:=by kernel_rfl
 i5:=by kernel_rfl
 i9:=by kernel_rfl
 i21:=by kernel_rfl
 i31:=by kernel_rfl
 i46:=by kernel_rfl
 i51:=by kernel_rfl
 i105:=by kernel_rfl
 i138:=by kernel_rfl
 i139:=by kernel_rfl
 i146:=by kernel_rfl
 m1:=by kernel_rfl
 s1_3:=fun w h=>Go.Proofs.cell_of_shapedOpen_int (zero:=#[.int .i64 0]) (t:=3) h (of_decide_eq_true (by kernel_rfl)) (by kernel_rfl) rfl (by kernel_rfl) (by kernel_rfl) Tryz.underlying3
 m3:=by kernel_rfl
 m4:=by kernel_rfl }
end Go.Proofs
set_option linter.unusedVariables false
set_option linter.unusedSimpArgs false
namespace Go.Bu
open Go Go.RowKit Go.Plan Go.Proofs
theorem readN_eq {s t : Store} {n : Nat} (hl : last t.flash ((n : Int) + 1) = last s.flash ((n : Int) + 1)) (hd : t.disk.getD n 0 = s.disk.getD n 0) : readN t n = readN s n:=by
 unfold readN;rw [hl,hd]
def Keeps (g g' : Nat → Int) : Store → List Step → Prop
 | s,[]=>∀ n,n < 6 → readN s n = g' n
 | s,x :: xs=>(∀ n,n < 6 → readN s n = g n) ∧ (∀ n,n < 6 → readN (doStep s x true) n = g n) ∧ Keeps g g' (doStep s x false) xs
theorem Keeps.to {g g' : Nat → Int} : ∀ {xs : List Step} {s : Store},Keeps g g' s xs → ∀ (k : Nat) (t : Bool) (n : Nat),n < 6 →
  readN (if t = true ∧ k < xs.length then doStep (doAll s (xs.take k)) ((xs[k]?).getD ⟨0,0,0,0,rec0⟩) true else doAll s (xs.take k)) n = if xs.length ≤ k then g' n else g n
 | [],s,h,k,t,n,hn=>by
  simp only [List.length_nil,Nat.not_lt_zero,and_false,if_false,List.take_nil]
  rw [if_pos (Nat.zero_le _)];exact h n hn
 | x :: xs,s,h,0,t,n,hn=>by
  rw [if_neg (show ¬ (x :: xs).length ≤ 0 by simp)]
  cases t
  ·exact h.1 n hn
  ·exact h.2.1 n hn
 | x :: xs,s,h,k + 1,t,n,hn=>by
  have:=Keeps.to h.2.2 k t n hn
  simp only [List.length_cons,Nat.succ_lt_succ_iff,List.take_succ_cons,List.getElem?_cons_succ,Nat.add_le_add_iff_right]
  exact this
theorem Keeps.toSteps {g g' : Nat → Int} {xs : List Step} {s : Store} (h : Keeps g g' s xs) (cut : Int) (t : Bool) (n : Nat) (hn : n < 6) : readN (toSteps s xs cut t) n = if xs.length ≤ cut.toNat then g' n else g n:=by
 unfold Bu.toSteps
 have:=h.to cut.toNat t n hn
 by_cases hc : 0 ≤ cut
 ·by_cases hl : cut.toNat < xs.length
  ·have e : decide (cut < (xs.length : Int)) = true:=decide_eq_true (by omega)
   rw [e,decide_eq_true hc]
   cases t
   ·rw [if_neg (by simp)] at this ⊢;exact this
   ·rw [if_pos ⟨rfl,hl⟩] at this
    rw [if_pos (show (true && true && true) = true from rfl)];exact this
  ·have e : decide (cut < (xs.length : Int)) = false:=decide_eq_false (by omega)
   rw [e,if_neg (by simp)]
   rw [if_neg (fun h=>hl h.2)] at this;exact this
 ·have h0:=h.to 0 false n hn
  rw [decide_eq_false hc,if_neg (by simp),show cut.toNat = 0 by omega]
  rw [if_neg (by simp)] at h0
  exact h0
theorem keeps_room {f : List Block} {g g' : Nat → Int} (rest : List Step) : ∀ (ds : List Step),(∀ x ∈ ds,x.kind = 1 ∧ (1 ≤ x.addr ∧ x.addr ≤ 6) ∧ (0 ≤ x.val ∧ x.val ≤ 9) ∧ (last f x.addr).kind = 1 ∧ 0 < (last f x.addr).seq ∧ (last f x.addr).val = x.val) →
  ∀ (T : Int → Prop) (s : Store),s.flash = f → SOk s → (∀ n,n < 6 → readN s n = g n) → (∀ a,1 ≤ a → T a → s.disk.getD (a - 1).toNat 0 = (last f a).val) →
   (∀ s' : Store,s'.flash = f → SOk s' → (∀ n,n < 6 → readN s' n = g n) → (∀ a,1 ≤ a → (T a ∨ ∃ x ∈ ds,x.addr = a) → s'.disk.getD (a - 1).toNat 0 = (last f a).val) → Keeps g g' s' rest) → Keeps g g' s (ds ++ rest)
 | [],_,T,s,hs,h,hg,ht,hk=>hk s hs h hg fun a ha hT=>ht a ha (hT.elim id fun ⟨x,hx,_⟩=>absurd hx List.not_mem_nil)
 | x :: ds,hx,T,s,hs,h,hg,ht,hk=>by
  obtain ⟨h1,ha,hv,hl,h0,hlv⟩:=hx x (by simp)
  have hl':=hl
  rw [← hs] at hl'
  obtain ⟨e1,e2,h2⟩:=safe_tell h h1 ha hv hl'
  have hlen:=h.len
  have hd : ∀ k : Nat,k < 6 → (s.disk.set (x.addr - 1).toNat x.val).getD k 0 = if (x.addr - 1).toNat = k then x.val else s.disk.getD k 0:=fun k hk=>by
   rw [List.getD_eq_getElem?_getD,List.getElem?_set]
   split
   ·rw [if_pos (by omega)];rfl
   ·rw [List.getD_eq_getElem?_getD]
  have hg1 : ∀ n,n < 6 → readN (doStep s x false) n = g n:=fun n hn=>by
   rw [e2,← hg n hn]
   unfold readN
   dsimp only
   rw [hd n hn,hs]
   by_cases hn1 : (x.addr - 1).toNat = n
   ·rw [show ((n : Int) + 1) = x.addr by omega,if_pos h0,if_pos h0]
   ·rw [if_neg hn1]
  refine ⟨hg,by rw [e1];exact hg,keeps_room rest ds (fun y hy=>hx y (by simp [hy])) (fun a=>T a ∨ a = x.addr) _ (by rw [e2];exact hs) h2 hg1 ?_ fun s' q1 q2 q3 q4=>hk s' q1 q2 q3 fun a ha hT=>q4 a ha ?_⟩
  ·rw [e2]
   intro a ha1 hT
   show (s.disk.set (x.addr - 1).toNat x.val).getD (a - 1).toNat 0 = _
   by_cases hax : a = x.addr
   ·subst hax
    rw [hd _ (by omega),if_pos rfl];exact hlv.symm
   ·have hT:=hT.resolve_right hax
    rw [← ht a ha1 hT,List.getD_eq_getElem?_getD,List.getD_eq_getElem?_getD,List.getElem?_set_ne (by omega)]
  ·rcases hT with h | ⟨y,hy,hya⟩
   ·exact .inl (.inl h)
   ·rcases List.mem_cons.1 hy with rfl | hy
    ·exact .inl (.inr hya.symm)
    ·exact .inr ⟨y,hy,hya⟩
theorem keeps_write {s : Store} (h : SOk s) {i : Nat} (ho : Openable s.flash i) {r : Rec} (hr : recOkB r = true) (hnew : ∀ n ∈ seqs s.flash,n < r.seq) {g : Nat → Int} (hg : ∀ n,n < 6 → readN s n = g n) :
  Keeps g (fun n=>if (n : Int) + 1 = r.addr then r.val else g n) s [⟨3,0,0,(i : Int),r⟩]:=by
 obtain ⟨b,hb,hc⟩:=ho.at_
 have e : ∀ t,doStep s ⟨3,0,0,(i : Int),r⟩ t = ⟨writeF s.flash i r t,s.disk⟩:=fun t=>by
  unfold doStep;dsimp only;rw [if_neg (by decide),if_neg (by decide),if_pos rfl,Int.toNat_natCast]
 have hrr:=recOkB_iff.1 hr
 refine ⟨hg,fun n hn=>?_,fun n hn=>?_⟩
 ·rw [e,← hg n hn]
  exact readN_eq (last_write h.ord.ok hb hc hr hnew _).1 rfl
 ·rw [e]
  have hw:=(last_write h.ord.ok hb hc hr hnew ((n : Int) + 1)).2
  dsimp only
  split
  ·rename_i ha
   rw [if_pos ha] at hw
   unfold readN
   dsimp only
   rw [hw,if_pos (by omega)]
  ·rename_i ha
   rw [if_neg ha] at hw
   rw [← hg n hn]
   exact readN_eq hw rfl
theorem keepsW {s : Store} (h : SOk s) (k a v : Int) (hne : writeSteps s.flash k a v ≠ []) : Keeps (readN s) (fun n=>if (n : Int) + 1 = a then v else readN s n) s (writeSteps s.flash k a v):=by
 unfold writeSteps at hne ⊢
 split
 ·rename_i hc
  rw [Bool.and_eq_true] at hc
  obtain ⟨hc1,hr⟩:=hc
  have hrr:=recOkB_iff.1 hr
  have hnew : ∀ n ∈ seqs s.flash,n < (⟨k,next s.flash,a,v⟩ : Rec).seq:=by
   intro n hn
   obtain ⟨b,hb,p,hp,h1,rfl⟩:=mem_seqs.1 hn
   have:=maxSeq_ge h.ord.ok ⟨b,hb,p,hp,h1,rfl⟩
   show _ < next s.flash
   unfold next;omega
  clear hne
  unfold room at hc1 ⊢
  by_cases ho : (openB s.flash).2 = true
  ·rw [if_pos ho]
   have hop:=openB_yes h.ord ho
   have h0:=(openB_lt ho).1
   have:=keeps_write h hop hr hnew (g:=readN s) (fun _ _=>rfl)
   rw [Int.toNat_of_nonneg h0] at this
   exact this
  ·rw [if_neg ho] at hc1 ⊢
   have ho' : (openB s.flash).2 = false:=by simpa using ho
   have hno:=openB_no h.ord.ok ho'
   have hp : ∀ b ∈ s.flash,partB b.pages = false:=fun b hb=>part_no (hno b hb)
   have hw : (blockAt s.flash (old s.flash)).worn < 200:=by simpa using hc1
   have hol:=old_lt (f:=s.flash) (by have:=h.ord.ok.len;omega)
   have hb : s.flash[old s.flash]? = some s.flash[old s.flash]:=List.getElem?_eq_getElem hol
   rw [List.append_assoc]
   refine keeps_room (f:=s.flash) _ _ (fun x hx=>?_) (fun _=>False) s rfl h (fun _ _=>rfl) (fun _ _ h=>h.elim) fun s' hs h' hg ht=>?_
   ·obtain ⟨p,hp,hm⟩:=List.mem_flatMap.1 hx
    unfold roomOne at hm
    split at hm
    ·rename_i hcc
     obtain rfl:=List.mem_singleton.1 hm
     have hl:=hcc.1
     simp only [liveP,Bool.and_eq_true,beq_iff_eq,recEq_iff] at hl
     have hok:=recOkB_iff.1 (liveP_ok h.ord.ok (blockAt_mem hol) hp hl.1)
     have e : last s.flash (diskStepOf p).addr = p.r:=hl.2
     exact ⟨rfl,hok.2.2.1,hok.2.2.2,by rw [e];exact hcc.2,by rw [e];omega,by rw [e];rfl⟩
    ·cases hm
   ·obtain ⟨b',e,h1,h2,h3,h4⟩:=wipe_get (f:=s.flash) hol hw false
    have d2 : ∀ t,doStep s' ⟨2,0,0,(old s.flash : Int),rec0⟩ t = ⟨wipeF s'.flash (old s'.flash) t,s'.disk⟩:=fun t=>by rw [hs];show (⟨wipeF s'.flash ((old s.flash : Int)).toNat t,s'.disk⟩ : Store) = _;rw [Int.toNat_natCast,hs]
    have hp' : ∀ b ∈ s'.flash,partB b.pages = false:=by rw [hs];exact hp
    have hw' : (blockAt s'.flash (old s'.flash)).worn < 200:=by rw [hs];exact hw
    have k2:=h'.wipe hp' hw' false
    rw [← d2] at k2
    have hrd : ∀ t n,n < 6 → readN (doStep s' ⟨2,0,0,(old s.flash : Int),rec0⟩ t) n = readN s n:=by
     intro t n hn
     rw [← hg n hn,d2]
     rcases last_wipe h'.ord hp' hw' t ((n : Int) + 1) with ⟨hW,el⟩ | ⟨_,el⟩
     ·unfold readN
      dsimp only
      rw [el,if_neg (show ¬ 0 < rec0.seq by decide)]
      split
      ·rename_i h0
       obtain ⟨p,hpm,hp1,hpr⟩:=hW
       rw [hs] at hpm hpr h0 ⊢
       rcases last_spec h.ord.ok ((n : Int) + 1) with ⟨er,_⟩ | ⟨hWF,hadr,_,_⟩
       ·rw [er] at h0;exact absurd h0 (by decide)
       ·have hok:=recOkB_iff.1 (hWF.ok h.ord.ok)
        by_cases hk : (last s.flash ((n : Int) + 1)).kind = 1
        ·have:=ht ((n : Int) + 1) (by omega) (.inr ⟨diskStepOf p,List.mem_flatMap.2 ⟨p,hpm,?_⟩,?_⟩)
         ·rw [show ((n : Int) + 1 - 1).toNat = n by omega] at this
          exact this
         ·unfold roomOne
          rw [if_pos]
          ·simp
          ·refine ⟨?_,by rw [hpr];exact hk⟩
           simp only [liveP,Bool.and_eq_true,beq_iff_eq,recEq_iff]
           exact ⟨hp1,by rw [hpr,hadr]⟩
         ·show p.r.addr = _
          rw [hpr,hadr]
        ·have hd : s'.disk[n]? = some (s'.disk.getD n 0):=by
          rw [List.getD_eq_getElem?_getD,List.getElem?_eq_getElem (by have:=h'.len;omega)];rfl
         have:=(h'.disk n _ hd).told
         rw [hs] at this
         exact (this h0 (by omega)).symm
      ·rfl
     ·exact readN_eq el rfl
    refine ⟨hg,hrd true,?_⟩
    have hfl : (doStep s' ⟨2,0,0,(old s.flash : Int),rec0⟩ false).flash = s.flash.set (old s.flash) b':=by rw [d2,hs];exact e
    have hrf:=hrd false
    generalize doStep s' ⟨2,0,0,(old s.flash : Int),rec0⟩ false = s2 at *
    have hsub : ∀ n ∈ seqs s2.flash,n ∈ seqs s.flash:=by
     intro n hn
     obtain ⟨c,hcm,hcn⟩:=mem_seqs.1 hn
     rw [hfl] at hcm
     rcases mem_set hcm with hcm | rfl
     ·exact mem_seqs.2 ⟨c,hcm,hcn⟩
     ·obtain ⟨p,hp,q1,q2⟩:=hcn
      exact absurd ⟨p,hp,q1,rfl⟩ (h2 p.r)
    have hop : Openable s2.flash (old s.flash):=by
     rw [hfl]
     refine ⟨⟨b',by rw [List.getElem?_set_self hol],h4 rfl⟩,fun k c hk hkc=>?_⟩
     rw [List.getElem?_set_ne (Ne.symm hk)] at hkc
     exact hp c (List.mem_of_getElem? hkc)
    exact keeps_write k2 hop hr (fun n hn=>hnew n (hsub n hn)) hrf
 ·rename_i hc
  rw [if_neg hc] at hne
  exact absurd rfl hne
theorem keeps_put {s : Store} (h : SOk s) (a v : Int) (hne : writeSteps s.flash 1 a v ≠ []) : Keeps (readN s) (fun n=>if (n : Int) + 1 = a then v else readN s n) s (writeSteps s.flash 1 a v):=keepsW h 1 a v hne
theorem toSteps_none (s : Store) (cut : Int) (t : Bool) : toSteps s [] cut t = s:=by
 unfold toSteps
 have : decide (cut < (([] : List Step).length : Int)) = true → (decide (0 ≤ cut)) = false:=fun h=>decide_eq_false (by have:=of_decide_eq_true h;simp at this;omega)
 rw [if_neg]
 ·rw [List.take_nil];rfl
 ·simp only [Bool.and_eq_true,not_and]
  intro h1 h2
  rw [this h2] at h1
  exact absurd h1.2 (by simp)
theorem read_put {s : Store} (h : SOk s) (a v cut : Int) (t : Bool) (n : Nat) (hn : n < 6) :
  readN (toSteps s (writeSteps s.flash 1 a v) cut t) n = if writeSteps s.flash 1 a v ≠ [] ∧ (writeSteps s.flash 1 a v).length ≤ cut.toNat then (if (n : Int) + 1 = a then v else readN s n) else readN s n:=by
 by_cases hne : writeSteps s.flash 1 a v = []
 ·rw [hne,toSteps_none,if_neg (by simp)]
 ·rw [(keeps_put h a v hne).toSteps cut t n hn]
  by_cases hl : (writeSteps s.flash 1 a v).length ≤ cut.toNat
  ·rw [if_pos hl,if_pos (show _ ≠ _ ∧ _ ≤ _ from ⟨hne,hl⟩)]
  ·rw [if_neg hl,if_neg (fun h=>hl h.2)]
end Go.Bu