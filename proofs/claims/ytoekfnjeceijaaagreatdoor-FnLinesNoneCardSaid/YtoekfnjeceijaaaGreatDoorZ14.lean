/- What the rows of the lines' laws share: the listed variables, the witness. What the constant scripts print. The laws of the lines that play a constant script. The laws of the lines that speak of what is printed. The lines' laws in plain Lean: scripts put behind a text; what flushing, filling and playing all leave. The laws of the lines that put a script behind the drawn text. The walks of the laws of the lines that put a script behind the drawn text. -/import Derived.Test.YtoekfnjeceijaaaGreatDoorRows
import Derived.Test.YtoekfnjeceijaaaGreatDoorZ2
import Derived.Test.YtoekfnjeceijaaaGreatDoorZ13
import Derived.ProofKit
import Derived.OpenShut
import Derived.ChangeOld
import Derived.ChangeMaps5
import Derived.LaidMore
import Derived.LaidLaws
import Derived.Lay
import Derived.HandedShaped
import Derived.Stop.Joined
import Derived.Stop.LaidErr
import Derived.Stop.Texts
import Derived.Test.YtoekfnjeceijaaaGreatDoorZ9
import Derived.Test.YtoekfnjeceijaaaGreatDoorZ7
import Derived.Test.YtoekfnjeceijaaaGreatDoorZ8
set_option maxHeartbeats 2000000
set_option linter.unusedVariables false
set_option linter.unusedSimpArgs false
namespace Go.Proofs.YtoekfnjeceijaaaGreatDoor.lines
open Go.ChangeShapes Go.WideShapes Go.ChangeAt Go.RowKit Go.Plan Go.Bu
theorem own : ownKnob Tryz.prog.godebug = none:=by kernel_rfl
theorem laidOut : laidOutB Tryz.prog = true:=by kernel_rfl
abbrev errName : String:="loop.example/buttery/impl.errTooLong"
abbrev laidL : List (String × DataW Unit):=Rows.fnExactLinesRunRow.laid
theorem gErr : Tryz.prog.globalNamed errName = some 0:=by kernel_rfl
theorem tErr : (Tryz.prog.globals[0]?).map (·.type) = some 35:=by kernel_rfl
theorem star : "*" ++ "errors.errorString" = "*errors.errorString":=by decide
theorem rowErr (u : TypeId) (h : Tryz.prog.typeName? 3 u = some "*errors.errorString") : u = 216:=
 typeName_ptr_named (nm:="errors.errorString") (by rw [star];kernel_rfl) (by kernel_rfl) (by decide) u (by rw [star];exact h)
theorem cellsE : Tryz.prog.cellsOf 240 = 1:=by kernel_rfl
theorem cellsS : Tryz.prog.cellsOf 9 = 1:=by kernel_rfl
section
variable {H : Type} {enc : TypeId × Value → H}
theorem returns_and_shaped {a : Assume} {C : Checked} {os : Os} {f : FuncId} {fn : Func} {s : ChangeSpec} {conds : List PathCond} {apart fresh handsOn again : Bool} {X : World → Array Value → Prop}
  (hX : ∀ (w w' : World) (args : Array Value),w.heap = w'.heap → X w args → X w' args)
  (own : ownKnob C.prog.godebug = none) (started : os.Started) (noInit : C.prog.inits.idxOf? f = none) (hfn : C.prog.funcs[f]? = some fn)
  (witness : ∃ (w : World) (tape : Tape) (i : Input),w.os = os ∧ (w.forCall tape i).Shaped C.prog ∧ i.vars = [] ∧ Input.okWide C.prog (w.forCall tape i) .any w.heap.size f i ∧
   ((s.pre enc C.prog fn conds apart (w.forCall tape i).memory i.args ∧ X (w.forCall tape i).memory i.args) ∧ sizedMet enc C.prog fn (OpenSpec.ofChange s) apart (w.forCall tape i).memory i.args) ∧ a.holds C.prog (lone (Frame.enter C.prog f i.args .normal) [] (w.forCall tape i)))
  (contract : ∀ (W : World) (base : Nat) (args : Array Value) (ds gs : List (DataW H)) (before : List MemPlace),
   (∀ (j : Nat) t v,fn.params[j]? = some t → args[j]? = some v → Value.okWide C.prog W .any base t v) →
   DataW.Whole enc C.prog fn.params.toList s.vars apart W args.toList ds gs before → X W args → W.ShapedOpen C.prog →
   Calls C.prog f args W fun e W'=>∃ v,e = .returned v ∧ s.post enc C.prog fn apart fresh handsOn again W args v W') :
  ReturnsInHanded a C os f .any (fun w args=>(s.pre enc C.prog fn conds apart w args ∧ X w args) ∧ sizedMet enc C.prog fn (OpenSpec.ofChange s) apart w args) (s.post enc C.prog fn apart fresh handsOn again):=by
 refine returnsInHanded_of_calls own started noInit witness ?_
 intro w tape i _ hsh _ hok hpre hholds
 obtain ⟨_,_,_,fn',hfn',_,_,_,_,hval⟩:=hok
 have e : fn' = fn:=Option.some.inj (hfn'.symm.trans hfn)
 subst e
 obtain ⟨⟨⟨ds,gs,before,hw,hc⟩,hx⟩,hz⟩:=hpre
 have hw':=DataW.Whole.of_heap (w':=w.forCall tape i) (by rfl) hw
 refine (contract (w.forCall tape i) w.heap.size i.args ds gs before hval hw' (hX _ _ _ (by rfl) hx) hsh).mono fun e W' ⟨v,he,hp⟩=>?_
 subst he
 exact ChangeSpec.post_blind hp
end
theorem vars_of {W : World} (h : laidMetH Tryz.prog laidL W) (hsh : W.ShapedOpen Tryz.prog) : ∃ a : Addr,W.var? Tryz.prog errName = some #[.iface 216 (.pointer (some a))] ∧ VarsAt W:=by
 rw [MakeChecks.laidMetH_plain _ _ _ (by kernel_rfl)] at h
 obtain ⟨a,s,hv,_⟩:=laid_sentinel (g:=0) (h.tail.tail.tail.tail) gErr tErr Tryz.underlying35 rowErr Tryz.underlying216 Tryz.underlying240 rfl rfl Tryz.underlying9 cellsE cellsS
 refine ⟨a,hv,⟨a,?_⟩,Tryz.laysM146.s1_3 W hsh⟩
 simpa using World.var?_cell gErr hv 0
theorem var_ext {W W' : World} {cs : Array Value} (h : W.var? Tryz.prog errName = some cs) (hx : Ext W W') : W'.var? Tryz.prog errName = some cs:=by
 unfold World.var? at *
 rw [gErr] at *
 simp only [Option.bind_some] at *
 have hlt : 0 < W.heap.size:=by
  rcases Nat.lt_or_ge 0 W.heap.size with h' | h'
  ·exact h'
  ·simp [Array.getElem?_eq_none h'] at h
 rw [hx.block 0 hlt];exact h
theorem reads {H : Type} (enc : TypeId × Value → H) {W : World} {x : Value} (h : W.var? Tryz.prog errName = some #[x]) (ix : IsIface x) (sp : Nat → Bool) : DataW.TrodVars enc Tryz.prog W sp [errName] [tok enc x] [.cell 0 0]:=
 vars_read1 enc gErr tErr Tryz.underlying35 h ix sp
theorem door_met (os : Os) (args : Array Value) : laidMetH Tryz.prog laidL ((World.laidAll Tryz.prog os laidL).forCall (fun _ _=>0) ⟨#[],args,[]⟩).memory:=by
 rw [MakeChecks.laidMetH_plain _ _ _ (by kernel_rfl)]
 exact laidMet_laidAll args (by kernel_rfl) (by kernel_rfl)
end Go.Proofs.YtoekfnjeceijaaaGreatDoor.lines
namespace Go.Bu
open Go Go.RowKit Go.Plan Go.Proofs
abbrev scPut : Str:=[112,117,116,32,50,32,55,10,112,117,116,32,53,32,51,10,115,101,101,10,102,108,117,115,104,32,50,10,100,105,115,107,10,100,105,114,116,121,10]
abbrev ansPut : Str:=[48,32,100,50,55,32,100,53,51,32,45,32,45,10,48,32,45,32,45,32,45,32,45,10,48,32,45,32,45,32,45,32,45,10,48,32,45,32,45,32,45,32,45,10,100,105,115,107,32,48,32,55,32,48,32,48,32,48,32,48,10,100,105,114,116,121,32,53,10,97,108,108,32,48,32,55,32,48,32,48,32,51,32,48,10]
theorem run_put : linesRun scPut = ansPut:=by decide +kernel
theorem run_nil : linesRun [] = [97,108,108,32,48,32,48,32,48,32,48,32,48,32,48,10]:=by decide +kernel
theorem run_fall1 : linesRun [112,117,116,32,49,32,52,10,102,97,108,108,32,49,32,57,32,48,10,115,101,101,10] = [48,32,100,49,52,32,63,32,45,32,45,10,48,32,45,32,45,32,45,32,45,10,48,32,45,32,45,32,45,32,45,10,48,32,45,32,45,32,45,32,45,10,97,108,108,32,52,32,48,32,48,32,48,32,48,32,48,10]:=by decide +kernel
theorem run_fall2 : linesRun [112,117,116,32,49,32,52,10,102,97,108,108,32,49,32,57,32,48,10,112,117,116,32,49,32,57,10] = [97,108,108,32,57,32,48,32,48,32,48,32,48,32,48,10]:=by decide +kernel
theorem run_fall3 : linesRun [102,97,108,108,32,49,32,57,32,49,10] = [97,108,108,32,57,32,48,32,48,32,48,32,48,32,48,10]:=by decide +kernel
theorem run_fill : linesRun [102,105,108,108,32,52,10,102,105,108,108,32,52,10,112,117,116,32,50,32,49,10,102,105,108,108,32,50,10,115,101,101,10] = [48,32,99,52,48,32,100,50,49,32,45,32,45,10,48,32,45,32,45,32,45,32,45,10,48,32,45,32,45,32,45,32,45,10,48,32,45,32,45,32,45,32,45,10,97,108,108,32,48,32,49,32,48,32,48,32,48,32,48,10]:=by decide +kernel
theorem run_all : linesRun [112,117,116,32,49,32,49,10,112,117,116,32,50,32,50,10,112,117,116,32,54,32,54,10,97,108,108,10,100,105,115,107,10,100,105,114,116,121,10] = [100,105,115,107,32,49,32,50,32,48,32,48,32,48,32,54,10,100,105,114,116,121,10,97,108,108,32,49,32,50,32,48,32,48,32,48,32,54,10]:=by decide +kernel
theorem run_what : linesRun [119,104,97,116,10] = [119,104,97,116,10] ++ linesRun []:=by decide +kernel
theorem run_none : linesRun [112,117,116,32,55,32,49,10,112,117,116,32,49,32,49,48,10,102,108,117,115,104,32,49,10,102,97,108,108,32,49,32,50,10] = linesRun []:=by decide +kernel
theorem run_dirty : linesRun [100,105,114,116,121,10] = [100,105,114,116,121,10] ++ linesRun []:=by decide +kernel
def wearT (k : Nat) : Str:=(List.range k).foldl (fun s _=>s ++ [112,117,116,32,49,32,49,10]) []
abbrev ansWear : Str:=[52,32,100,49,49,32,45,32,45,32,45,10,51,32,100,49,49,32,100,49,49,32,100,49,49,32,100,49,49,10,51,32,100,49,49,32,100,49,49,32,100,49,49,32,100,49,49,10,51,32,100,49,49,32,100,49,49,32,100,49,49,32,100,49,49,10,97,108,108,32,49,32,48,32,48,32,48,32,48,32,48,10]
theorem run_wear : linesRun (wearT 65 ++ [115,101,101,10]) = ansWear:=by decide +kernel
def wrapT (k : Nat) : Str:=(List.range k).foldl (fun s i=>s ++ [112,117,116,32,51,32] ++ [49 + UInt8.ofNat (i % 3)] ++ [10]) []
abbrev ansWrap : Str:=[49,32,100,51,49,32,45,32,45,32,45,10,48,32,100,51,49,32,100,51,50,32,100,51,51,32,100,51,49,10,48,32,100,51,50,32,100,51,51,32,100,51,49,32,100,51,50,10,48,32,100,51,51,32,100,51,49,32,100,51,50,32,100,51,51,10,100,105,115,107,32,48,32,48,32,48,32,48,32,48,32,53,10,97,108,108,32,48,32,48,32,49,32,48,32,48,32,53,10]
theorem run_wrap : linesRun ([112,117,116,32,54,32,53,10] ++ wrapT 16 ++ [115,101,101,10,100,105,115,107,10]) = ansWrap:=by decide +kernel
end Go.Bu
namespace Go.Bu
open Go Go.RowKit Go.Plan Go.Proofs
set_option maxRecDepth 20000 in
set_option maxHeartbeats 2000000 in
theorem lawLinesPut (v : Value) (xs : List Nat) (w : World) (h : Bytes (Old w) w v xs) (hs : ∀ x ∈ xs,x < 256) (hcap : ∀ a n c,v = .slice a n c → n ≤ c) (hV : VarsAt w) :
  Calls Tryz.prog 12 #[v] w (TrueE w):=by
 have h1:=fun w hv=>implRun_c scPut w hv (by decide)
 have h2:=fun w hv=>implRun_c [] w hv (by decide)
 rw [run_put] at h1
 rw [run_nil] at h2
 obtain ⟨a,cap,rfl⟩:=h.form
 by_cases hl : xs.length ≤ 1048576
 rotate_left
 focus
  go_enter Tryz.func12,Tryz.ntmps12
  go_wp2_with fail
  go_ret
  exact ⟨rfl,ext_refl _⟩
 go_enter Tryz.func12,Tryz.ntmps12
 go_wp2_with fail
 refine (drawLinesRun_c _ xs _ h hs hl hcap).mono ?_;rintro e1 w1 ⟨t,rfl,hx1,hT,ht⟩
 have hV1:=hV.ext hx1
 clear hs hl hcap h hV
 go_wp2_with fail
 refine (implRun_c t _ hV1 (by omega)).mono ?_;rintro e2 w2 ⟨rfl,hx2⟩
 have hV2:=hV1.ext hx2
 have X2:=ext_trans hx1 hx2
 clear hx1 hx2 hV1
 go_wp2_with fail
 refine (specLinesRun_c t (by omega) _).mono ?_;rintro e3 w3 ⟨rfl,hx3⟩
 have hV3:=hV2.ext hx3
 have X3:=ext_trans X2 hx3
 clear hx3 X2 hV2
 generalize linesRun t = A
 go_wp2_with fail
 refine (h1 _ hV3).mono ?_;rintro e4 w4 ⟨rfl,hx4⟩
 have hV4:=hV3.ext hx4
 have X4:=ext_trans X3 hx4
 go_wp2_with fail
 refine (h2 _ hV4).mono ?_;rintro e5 w5 ⟨rfl,hx5⟩
 have X5:=ext_trans X4 hx5
 go_wp2_with fail
 go_ret
 exact ⟨rfl,X5⟩
set_option maxRecDepth 20000 in
set_option maxHeartbeats 2000000 in
theorem lawLinesFall (v : Value) (xs : List Nat) (w : World) (h : Bytes (Old w) w v xs) (hs : ∀ x ∈ xs,x < 256) (hcap : ∀ a n c,v = .slice a n c → n ≤ c) (hV : VarsAt w) :
  Calls Tryz.prog 8 #[v] w (TrueE w):=by
 have h1:=fun w hv=>implRun_c [112,117,116,32,49,32,52,10,102,97,108,108,32,49,32,57,32,48,10,115,101,101,10] w hv (by decide)
 have h2:=fun w hv=>implRun_c [112,117,116,32,49,32,52,10,102,97,108,108,32,49,32,57,32,48,10,112,117,116,32,49,32,57,10] w hv (by decide)
 have h3:=fun w hv=>implRun_c [102,97,108,108,32,49,32,57,32,49,10] w hv (by decide)
 rw [run_fall1] at h1
 rw [run_fall2] at h2
 rw [run_fall3] at h3
 obtain ⟨a,cap,rfl⟩:=h.form
 by_cases hl : xs.length ≤ 1048576
 rotate_left
 focus
  go_enter Tryz.func8,Tryz.ntmps8
  go_wp2_with fail
  go_ret
  exact ⟨rfl,ext_refl _⟩
 go_enter Tryz.func8,Tryz.ntmps8
 go_wp2_with fail
 refine (drawLinesRun_c _ xs _ h hs hl hcap).mono ?_;rintro e1 w1 ⟨t,rfl,hx1,hT,ht⟩
 have hV1:=hV.ext hx1
 clear hs hl hcap h hV
 go_wp2_with fail
 refine (implRun_c t _ hV1 (by omega)).mono ?_;rintro e2 w2 ⟨rfl,hx2⟩
 have hV2:=hV1.ext hx2
 have X2:=ext_trans hx1 hx2
 clear hx1 hx2 hV1
 go_wp2_with fail
 refine (specLinesRun_c t (by omega) _).mono ?_;rintro e3 w3 ⟨rfl,hx3⟩
 have hV3:=hV2.ext hx3
 have X3:=ext_trans X2 hx3
 clear hx3 X2 hV2
 generalize linesRun t = A
 go_wp2_with fail
 refine (h1 _ hV3).mono ?_;rintro e4 w4 ⟨rfl,hx4⟩
 have hV4:=hV3.ext hx4
 have X4:=ext_trans X3 hx4
 go_wp2_with fail
 refine (h2 _ hV4).mono ?_;rintro e5 w5 ⟨rfl,hx5⟩
 have hV5:=hV4.ext hx5
 have X5:=ext_trans X4 hx5
 go_wp2_with fail
 refine (h3 _ hV5).mono ?_;rintro e6 w6 ⟨rfl,hx6⟩
 have X6:=ext_trans X5 hx6
 go_wp2_with fail
 go_ret
 exact ⟨rfl,X6⟩
set_option maxRecDepth 20000 in
set_option maxHeartbeats 2000000 in
theorem lawLinesFill (v : Value) (xs : List Nat) (w : World) (h : Bytes (Old w) w v xs) (hs : ∀ x ∈ xs,x < 256) (hcap : ∀ a n c,v = .slice a n c → n ≤ c) (hV : VarsAt w) :
  Calls Tryz.prog 9 #[v] w (TrueE w):=by
 have h1:=fun w hv=>implRun_c [102,105,108,108,32,52,10,102,105,108,108,32,52,10,112,117,116,32,50,32,49,10,102,105,108,108,32,50,10,115,101,101,10] w hv (by decide)
 rw [run_fill] at h1
 obtain ⟨a,cap,rfl⟩:=h.form
 by_cases hl : xs.length ≤ 1048576
 rotate_left
 focus
  go_enter Tryz.func9,Tryz.ntmps9
  go_wp2_with fail
  go_ret
  exact ⟨rfl,ext_refl _⟩
 go_enter Tryz.func9,Tryz.ntmps9
 go_wp2_with fail
 refine (drawLinesRun_c _ xs _ h hs hl hcap).mono ?_;rintro e1 w1 ⟨t,rfl,hx1,hT,ht⟩
 have hV1:=hV.ext hx1
 clear hs hl hcap h hV
 go_wp2_with fail
 refine (implRun_c t _ hV1 (by omega)).mono ?_;rintro e2 w2 ⟨rfl,hx2⟩
 have hV2:=hV1.ext hx2
 have X2:=ext_trans hx1 hx2
 clear hx1 hx2 hV1
 go_wp2_with fail
 refine (specLinesRun_c t (by omega) _).mono ?_;rintro e3 w3 ⟨rfl,hx3⟩
 have hV3:=hV2.ext hx3
 have X3:=ext_trans X2 hx3
 clear hx3 X2 hV2
 generalize linesRun t = A
 go_wp2_with fail
 refine (h1 _ hV3).mono ?_;rintro e4 w4 ⟨rfl,hx4⟩
 have X4:=ext_trans X3 hx4
 go_wp2_with fail
 go_ret
 exact ⟨rfl,X4⟩
theorem wearT_succ (k : Nat) : wearT (k + 1) = wearT k ++ [112,117,116,32,49,32,49,10]:=by unfold wearT;rw [List.range_succ,List.foldl_append];rfl
theorem wearT_len : ∀ k : Nat,(wearT k).length = 8 * k
 | 0=>rfl
 | k + 1=>by rw [wearT_succ,List.length_append,wearT_len k];simp;omega
set_option maxRecDepth 20000 in
set_option maxHeartbeats 2000000 in
theorem lawLinesWear (v : Value) (xs : List Nat) (w : World) (h : Bytes (Old w) w v xs) (hs : ∀ x ∈ xs,x < 256) (hcap : ∀ a n c,v = .slice a n c → n ≤ c) (hV : VarsAt w) :
  Calls Tryz.prog 4 #[v] w (TrueE w):=by
 have h1:=fun w hv=>implRun_c (wearT 65 ++ [115,101,101,10]) w hv (by decide)
 rw [run_wear] at h1
 have H1:=Lib.hid h1;clear h1
 obtain ⟨a,cap,rfl⟩:=h.form
 by_cases hl : xs.length ≤ 1048576
 rotate_left
 focus
  go_enter Tryz.func4,Tryz.ntmps4
  go_wp2_with fail
  go_ret
  exact ⟨rfl,ext_refl _⟩
 go_enter Tryz.func4,Tryz.ntmps4
 go_wp2_with fail
 refine (drawLinesRun_c _ xs _ h hs hl hcap).mono ?_;rintro e1 w1 ⟨t,rfl,hx1,hT,ht⟩
 have hV1:=hV.ext hx1
 clear hs hl hcap h hV
 go_wp2_with fail
 refine (implRun_c t _ hV1 (by omega)).mono ?_;rintro e2 w2 ⟨rfl,hx2⟩
 have hV2:=hV1.ext hx2
 have X2:=ext_trans hx1 hx2
 clear hx1 hx2 hV1
 go_wp2_with fail
 refine (specLinesRun_c t (by omega) _).mono ?_;rintro e3 w3 ⟨rfl,hx3⟩
 have hV3:=hV2.ext hx3
 have X3:=ext_trans X2 hx3
 clear hx3 X2 hV2
 generalize linesRun t = A
 go_wp2_with fail
 go_loopw [5,6] (fun x y wr=>∃ k : Nat,x = strV (wearT k) ∧ y = .int .i64 (k : Int) ∧ k ≤ 65 ∧ Ext w wr ∧ Hid (VarsAt wr)) (fun _ y _=>65 - (intOf y).toNat)
 case atStart=>exact ⟨0,rfl,rfl,by omega,X3,Lib.hid hV3⟩
 case round =>
  clear hV3 X3
  obtain ⟨k,rfl,rfl,hk,hX,hV⟩:=hrel
  have hl:=wearT_len k
  by_cases hlt : k < 65
  ·have ha:=str_addz (P:=Tryz.prog) (x:=wearT k) (y:=[112,117,116,32,49,32,49,10]) (wearT (k + 1)) (wearT_succ k).symm (by simp;omega)
   go_wp2_with fail
   go_roundw
   case rel=>exact ⟨k + 1,rfl,by go_num,by omega,hX,hV⟩
   case measure=>simp [intOf];omega
  ·obtain rfl : k = 65:=by omega
   have ha:=str_add (P:=Tryz.prog) (wearT 65) [115,101,101,10] (by simp;omega)
   go_wp2_with fail
   refine (H1.out _ hV.out).mono ?_;rintro e4 w4 ⟨rfl,hx4⟩
   have X4:=ext_trans hX hx4
   go_wp2_with fail
   go_ret
   exact ⟨rfl,X4⟩
def wrapD (k : Nat) : Str:=[49 + UInt8.ofNat (k % 3)]
theorem wrapT_succ (k : Nat) : wrapT (k + 1) = wrapT k ++ [112,117,116,32,51,32] ++ wrapD k ++ [10]:=by unfold wrapT;rw [List.range_succ,List.foldl_append];rfl
theorem wrapT_len : ∀ k : Nat,(wrapT k).length = 8 * k
 | 0=>rfl
 | k + 1=>by rw [wrapT_succ];simp only [List.length_append,wrapT_len k];simp [wrapD];omega
theorem wrapD_at (k : Nat) : (#[.string ⟨#[49]⟩,.string ⟨#[50]⟩,.string ⟨#[51]⟩] : Array Value)[k % 3]? = some (.string ⟨(wrapD k).toArray⟩):=by
 unfold wrapD
 rcases (show k % 3 = 0 ∨ k % 3 = 1 ∨ k % 3 = 2 by omega) with h | h | h <;> rw [h] <;> rfl
set_option maxRecDepth 20000 in
set_option maxHeartbeats 2000000 in
theorem lawLinesWrap (v : Value) (xs : List Nat) (w : World) (h : Bytes (Old w) w v xs) (hs : ∀ x ∈ xs,x < 256) (hcap : ∀ a n c,v = .slice a n c → n ≤ c) (hV : VarsAt w) :
  Calls Tryz.prog 5 #[v] w (TrueE w):=by
 have h1:=fun w hv=>implRun_c ([112,117,116,32,54,32,53,10] ++ wrapT 16 ++ [115,101,101,10,100,105,115,107,10]) w hv (by decide)
 rw [run_wrap] at h1
 have H1:=Lib.hid h1;clear h1
 obtain ⟨a,cap,rfl⟩:=h.form
 by_cases hl : xs.length ≤ 1048576
 rotate_left
 focus
  go_enter Tryz.func5,Tryz.ntmps5
  go_wp2_with fail
  go_ret
  exact ⟨rfl,ext_refl _⟩
 go_enter Tryz.func5,Tryz.ntmps5
 go_wp2_with fail
 refine (drawLinesRun_c _ xs _ h hs hl hcap).mono ?_;rintro e1 w1 ⟨t,rfl,hx1,hT,ht⟩
 have hV1:=hV.ext hx1
 clear hs hl hcap h hV
 go_wp2_with fail
 refine (implRun_c t _ hV1 (by omega)).mono ?_;rintro e2 w2 ⟨rfl,hx2⟩
 have hV2:=hV1.ext hx2
 have X2:=ext_trans hx1 hx2
 clear hx1 hx2 hV1
 go_wp2_with fail
 refine (specLinesRun_c t (by omega) _).mono ?_;rintro e3 w3 ⟨rfl,hx3⟩
 have hV3:=hV2.ext hx3
 have X3:=ext_trans X2 hx3
 clear hx3 X2 hV2
 generalize linesRun t = A
 go_wp2_with fail
 go_loopw [5,6] (fun x y wr=>∃ k : Nat,x = strV (wrapT k) ∧ y = .int .i64 (k : Int) ∧ k ≤ 16 ∧ Ext w wr ∧ Hid (VarsAt wr)) (fun _ y _=>16 - (intOf y).toNat)
 case atStart=>exact ⟨0,rfl,rfl,by omega,X3,Lib.hid hV3⟩
 case round =>
  clear hV3 X3
  obtain ⟨k,rfl,rfl,hk,hX,hV⟩:=hrel
  have hl:=wrapT_len k
  by_cases hlt : k < 16
  ·obtain ⟨r,hr⟩ : ∃ r,k % 3 = r:=⟨_,rfl⟩
   have hr3 : r < 3:=by omega
   have hmod : (k : Int).tmod 3 = (r : Int):=by rw [Int.tmod_eq_emod_of_nonneg (by omega)];omega
   have hD:=wrapD_at k
   rw [hr] at hD
   have hdl : (wrapD k).length = 1:=rfl
   have ha1:=str_add (P:=Tryz.prog) (wrapT k) [112,117,116,32,51,32] (by simp;omega)
   have ha2:=str_addz (P:=Tryz.prog) (x:=wrapT k ++ [112,117,116,32,51,32]) (y:=wrapD k) (wrapT k ++ 112 :: 117 :: 116 :: 32 :: 51 :: 32 :: wrapD k) (by simp) (by simp;omega)
   have ha3:=str_addz (P:=Tryz.prog) (x:=wrapT k ++ 112 :: 117 :: 116 :: 32 :: 51 :: 32 :: wrapD k) (y:=[10]) (wrapT (k + 1)) (by rw [wrapT_succ];simp) (by simp;omega)
   have hr3' : (r : Int) < 3:=by omega
   have hG : ∀ (h : r < [Value.string ⟨#[49]⟩,.string ⟨#[50]⟩,.string ⟨#[51]⟩].length),[Value.string ⟨#[49]⟩,.string ⟨#[50]⟩,.string ⟨#[51]⟩][r]'h = .string ⟨(wrapD k).toArray⟩:=fun h=>by
    have : ([Value.string ⟨#[49]⟩,.string ⟨#[50]⟩,.string ⟨#[51]⟩] : List Value)[r]? = some (.string ⟨(wrapD k).toArray⟩):=by simpa using hD
    rw [List.getElem?_eq_getElem h] at this
    exact Option.some.inj this
   clear hD
   generalize wrapD k = D at *
   have hXw:=ext_alloc hX (.cells #[.string ⟨#[49]⟩,.string ⟨#[50]⟩,.string ⟨#[51]⟩] 9)
   have hVw:=Lib.hid (hV.out.ext (ext_alloc (ext_refl _) (.cells #[.string ⟨#[49]⟩,.string ⟨#[50]⟩,.string ⟨#[51]⟩] 9)))
   obtain ⟨k1,hk1⟩ : ∃ k1,k + 1 = k1:=⟨_,rfl⟩
   rw [hk1] at ha3
   go_wp2_with fail
   go_roundw
   case rel=>exact ⟨k1,rfl,by rw [← hk1];go_num,by omega,hXw,hVw⟩
   case measure=>simp [intOf];omega
  ·obtain rfl : k = 16:=by omega
   have ha1:=str_add (P:=Tryz.prog) [112,117,116,32,54,32,53,10] (wrapT 16) (by simp;omega)
   have ha2:=str_add (P:=Tryz.prog) ([112,117,116,32,54,32,53,10] ++ wrapT 16) [115,101,101,10,100,105,115,107,10] (by simp;omega)
   have HH:=H1.out _ hV.out
   generalize wrapT 16 = W16 at *
   simp only [List.cons_append,List.nil_append] at ha1 ha2 HH
   go_wp2_with fail
   refine HH.mono ?_;rintro e4 w4 ⟨rfl,hx4⟩
   have X4:=ext_trans hX hx4
   go_wp2_with fail
   go_ret
   exact ⟨rfl,X4⟩
end Go.Bu
namespace Go.Bu
open Go Go.RowKit Go.Plan Go.Proofs
theorem str_slice {t : TypeId} (ht : Tryz.prog.underlying t = some .string) (A : Str) (lo hi : Nat) (l h : Int) (hl : l = (lo : Int)) (hh : h = (hi : Int)) (h1 : lo ≤ hi) (h2 : hi ≤ A.length) (z : Str) (hz : (A.drop lo).take (hi - lo) = z) :
  ∀ w : World,(Instr.slice t (strV A) (some (.int .i64 l)) (some (.int .i64 h)) none).run Tryz.prog w = .ok (.string ⟨z.toArray⟩) w:=fun w=>by
 have hsz : (ByteArray.mk A.toArray).size = A.length:=by simp [ByteArray.size]
 have this : (Instr.slice t (.string ⟨A.toArray⟩) (some (.int .i64 l)) (some (.int .i64 h)) none).run Tryz.prog w = .ok (.string ((ByteArray.mk A.toArray).extract l.toNat h.toNat)) w:=by
  have a1 : 0 ≤ l:=by omega
  have a2 : l ≤ h:=by omega
  have a3 : h ≤ (ByteArray.mk A.toArray).size:=by rw [hsz];omega
  simp [Instr.slice,run_underlying ht,Instr.sliceBounds,run_sliceBound,sliced, *,(by omega : 0 ≤ h)]
 subst hl hh hz
 have e : (ByteArray.mk A.toArray).extract lo hi = ⟨((A.drop lo).take (hi - lo)).toArray⟩:=by
  apply ByteArray.ext
  rw [ByteArray.data_extract]
  simp [List.extract_toArray,List.extract]
 rw [this,Int.toNat_natCast,Int.toNat_natCast,e]
theorem readN_nine {s : Store} (h : storeOkB s = true) {n : Nat} (hn : n < 6) : 0 ≤ readN s n ∧ readN s n ≤ 9:=by
 have hF:=(storeOk_iff.1 h).ord.ok
 unfold readN
 split
 ·rename_i hq
  rcases last_ok hF ((n : Int) + 1) with h0 | ⟨h0,_⟩
  ·rw [h0] at hq;exact absurd hq (by decide)
  ·exact (recOkB_iff.1 h0).2.2.2
 ·have h6:=storeOk_disk h
  rw [List.getD_eq_getElem?_getD,List.getElem?_eq_getElem (by omega),Option.getD_some]
  have:=((storeOk_iff.1 h).disk n _ (List.getElem?_eq_getElem (by omega))).val
  omega
theorem decI_one {n : Int} (h : 0 ≤ n ∧ n ≤ 9) : ∃ d,decI n = [d]:=by unfold decI;exact ⟨_,decN_one (by omega)⟩
theorem all_line {s : Store} (h : storeOkB s = true) : ∃ d0 d1 d2 d3 d4 d5,numsS wAll (allS s) = [97,108,108,32,d0,32,d1,32,d2,32,d3,32,d4,32,d5,10]:=by
 obtain ⟨d0,h0⟩:=decI_one (readN_nine h (n:=0) (by omega))
 obtain ⟨d1,h1⟩:=decI_one (readN_nine h (n:=1) (by omega))
 obtain ⟨d2,h2⟩:=decI_one (readN_nine h (n:=2) (by omega))
 obtain ⟨d3,h3⟩:=decI_one (readN_nine h (n:=3) (by omega))
 obtain ⟨d4,h4⟩:=decI_one (readN_nine h (n:=4) (by omega))
 obtain ⟨d5,h5⟩:=decI_one (readN_nine h (n:=5) (by omega))
 refine ⟨d0,d1,d2,d3,d4,d5,?_⟩
 have e : allS s = [readN s 0,readN s 1,readN s 2,readN s 3,readN s 4,readN s 5]:=rfl
 rw [e]
 unfold numsS
 simp only [List.foldl_cons,List.foldl_nil,h0,h1,h2,h3,h4,h5]
 rfl
theorem runS_ok (t : Str) : storeOkB (runS t).1 = true:=linesDo_ok _ _ storeOk_new
theorem run_line {t : Str} (h : ¬ 600 < t.length) : ∃ d0 d1 d2 d3 d4 d5,linesRun t = (runS t).2 ++ [97,108,108,32,d0,32,d1,32,d2,32,d3,32,d4,32,d5,10]:=by
 obtain ⟨d0,d1,d2,d3,d4,d5,e⟩:=all_line (runS_ok t)
 refine ⟨d0,d1,d2,d3,d4,d5,?_⟩
 unfold linesRun
 rw [if_neg h,e]
theorem run_len {t : Str} (h : ¬ 600 < t.length) : (runS t).2.length ≤ 200 * 600:=by
 have hsz:=cut_lines (text:=t) (by omega)
 have hll : ∀ ws : List Str,ws.length ≤ sizeL ws:=by
  intro ws
  induction ws with
  | nil=>exact Nat.le_refl _
  | cons w ws ih=>rw [sizeL_cons,List.length_cons];omega
 have hb : ∀ k,(linesDo (newStore,[]) ((cut 10 t).dropLast.take k)).2.length ≤ 200 * k:=by
  intro k
  induction k with
  | zero=>simp [linesDo]
  | succ k ih =>
   by_cases hk : k < (cut 10 t).dropLast.length
   ·have hbd:=run_bound (ls:=(cut 10 t).dropLast.take k) (by have:=sizeL_take (cut 10 t).dropLast k;omega)
    rw [lines_take _ k hk,stepL_eq]
    have:=wordsDo_len hbd.1 (fun b hm=>(hbd.2.1 b hm).2) (cut 32 (cut 10 t).dropLast[k])
    rw [List.length_append]
    have e : (lineDo (linesDo (newStore,[]) ((cut 10 t).dropLast.take k)).1 (cut 10 t).dropLast[k]).2.length ≤ 200:=this
    omega
   ·rw [List.take_of_length_le (by omega)]
    rw [List.take_of_length_le (by omega)] at ih
    omega
 have h1:=hb (cut 10 t).dropLast.length
 rw [List.take_length] at h1
 have h2:=hll (cut 10 t).dropLast
 unfold runS
 have : 200 * (cut 10 t).dropLast.length ≤ 200 * 600:=Nat.mul_le_mul_left _ (by omega)
 omega
set_option maxRecDepth 20000 in
set_option maxHeartbeats 2000000 in
theorem lawLinesRun (v : Value) (xs : List Nat) (w : World) (h : Bytes (Old w) w v xs) (hs : ∀ x ∈ xs,x < 256) (hcap : ∀ a n c,v = .slice a n c → n ≤ c) (hV : VarsAt w) :
  Calls Tryz.prog 14 #[v] w (TrueE w):=by
 obtain ⟨a,cap,rfl⟩:=h.form
 by_cases hl : xs.length ≤ 1048576
 rotate_left
 focus
  go_enter Tryz.func14,Tryz.ntmps14
  go_wp2_with fail
  go_ret
  exact ⟨rfl,ext_refl _⟩
 go_enter Tryz.func14,Tryz.ntmps14
 go_wp2_with fail
 refine (drawLinesRun_c _ xs _ h hs hl hcap).mono ?_;rintro e1 w1 ⟨t,rfl,hx1,hT,ht⟩
 have hV1:=hV.ext hx1
 clear hs hl hcap h hV
 go_wp2_with fail
 refine (implRun_c t _ hV1 (by omega)).mono ?_;rintro e2 w2 ⟨rfl,hx2⟩
 have hV2:=hV1.ext hx2
 have X2:=ext_trans hx1 hx2
 clear hx1 hx2 hV1
 go_wp2_with fail
 refine (specLinesRun_c t (by omega) _).mono ?_;rintro e3 w3 ⟨rfl,hx3⟩
 have hV3:=hV2.ext hx3
 have X3:=ext_trans X2 hx3
 clear hx3 X2 hV2
 by_cases h6 : 600 < t.length
 ·have h6' : (600 : Int) < (t.length : Int):=by omega
  rw [show linesRun t = wLong by unfold linesRun;rw [if_pos h6]]
  go_wp2_with fail
  go_ret
  exact ⟨rfl,X3⟩
 ·have h6' : ¬ (600 : Int) < (t.length : Int):=by omega
  obtain ⟨d0,d1,d2,d3,d4,d5,e⟩:=run_line h6
  have hln:=run_len h6
  rw [e]
  clear e
  generalize (runS t).2 = P at *
  obtain ⟨A,hA⟩ : ∃ A : Str,P ++ [97,108,108,32,d0,32,d1,32,d2,32,d3,32,d4,32,d5,10] = A:=⟨_,rfl⟩
  have hAl : A.length = P.length + 16:=by rw [← hA];simp
  rw [hA]
  have HA:=Lib.hid hA;clear hA
  have hge : (16 : Int) ≤ (A.length : Int):=by omega
  have hP : A.drop P.length = [97,108,108,32,d0,32,d1,32,d2,32,d3,32,d4,32,d5,10]:=by rw [← HA.out,List.drop_left]
  have hs1:=str_slice (t:=9) (by kernel_rfl) A P.length (P.length + 4) (P.length : Int) ((P.length : Int) + 16 - 12) rfl (by omega) (by omega) (by omega) [97,108,108,32] (by rw [hP,Nat.add_sub_cancel_left];rfl)
  have hs2:=str_slice (t:=9) (by kernel_rfl) A (P.length + 4) (P.length + 15) ((P.length : Int) + 16 - 12) ((P.length : Int) + 16 - 1) (by omega) (by omega) (by omega) (by omega) [d0,32,d1,32,d2,32,d3,32,d4,32,d5] (by rw [← List.drop_drop,hP,Nat.add_sub_add_left];rfl)
  have hi0 : A[P.length + 15]? = some 10:=by
   have : (A.drop P.length)[15]? = some 10:=by rw [hP];rfl
   rwa [List.getElem?_drop] at this
  have hi1:=str_ix (P:=Tryz.prog) (t:=9) (by kernel_rfl) A (P.length + 15) (by omega)
  have hi2 : A[P.length + 15] = 10:=by rw [List.getElem?_eq_getElem (by omega)] at hi0;exact Option.some.inj hi0
  rw [hi2] at hi1
  have hcast : ((P.length + 15 : Nat) : Int) = (P.length : Int) + 16 - 1:=by omega
  rw [hcast] at hi1
  clear hP hi0 hi2 hcast
  go_wp2_with fail
  go_ret
  exact ⟨rfl,X3⟩
end Go.Bu
namespace Go.Bu
open Go Go.RowKit Go.Plan Go.Proofs
theorem drop_last_app (xs : List Str) {ys : List Str} (h : ys ≠ []) : (xs ++ ys).dropLast = xs ++ ys.dropLast:=List.dropLast_append_of_ne_nil h
theorem cut_whole {t : Str} (hT : t = [] ∨ ∃ u,t = u ++ [10]) (u : Str) : cut 10 (t ++ u) = (cut 10 t).dropLast ++ cut 10 u:=by
 rcases hT with rfl | ⟨x,rfl⟩
 ·rw [List.nil_append,cut_nil];rfl
 ·rw [List.append_assoc,List.singleton_append,cut_append,cut_snoc_hit,List.dropLast_concat]
theorem runS_app {t : Str} (hT : t = [] ∨ ∃ u,t = u ++ [10]) (u : Str) : runS (t ++ u) = linesDo (runS t) (cut 10 u).dropLast:=by
 unfold runS
 rw [cut_whole hT,drop_last_app _ (cut_ne 10 u),linesDo_app]
theorem linesRun_app {t : Str} (hT : t = [] ∨ ∃ u,t = u ++ [10]) (u : Str) (hl : (t ++ u).length ≤ 600) : linesRun (t ++ u) = (linesDo (runS t) (cut 10 u).dropLast).2 ++ numsS wAll (allS (linesDo (runS t) (cut 10 u).dropLast).1):=by
 unfold linesRun
 rw [if_neg (by omega),runS_app hT]
theorem linesRun_at {t : Str} (hl : t.length ≤ 600) : linesRun t = (runS t).2 ++ numsS wAll (allS (runS t).1):=by
 unfold linesRun;rw [if_neg (by omega)]
def dig (k : Nat) : Str:=[49 + UInt8.ofNat k]
def lFlush (k : Nat) : Str:=[102,108,117,115,104,32] ++ dig k
def lFill (k : Nat) : Str:=[102,105,108,108,32] ++ dig k
def lPut8 (k : Nat) : Str:=[112,117,116,32] ++ dig k ++ [32,56]
theorem six {P : Nat → Prop} (h0 : P 0) (h1 : P 1) (h2 : P 2) (h3 : P 3) (h4 : P 4) (h5 : P 5) {k : Nat} (hk : k < 6) : P k:=by
 rcases (show k = 0 ∨ k = 1 ∨ k = 2 ∨ k = 3 ∨ k = 4 ∨ k = 5 by omega) with rfl | rfl | rfl | rfl | rfl | rfl <;> assumption
theorem cut_flush {k : Nat} (hk : k < 6) : cut 32 (lFlush k) = [wFlush,dig k]:=by
 revert hk;exact fun hk=>six (P:=fun k=>cut 32 (lFlush k) = [wFlush,dig k]) (by decide) (by decide) (by decide) (by decide) (by decide) (by decide) hk
theorem cut_fill {k : Nat} (hk : k < 6) : cut 32 (lFill k) = [wFill,dig k]:=
 six (P:=fun k=>cut 32 (lFill k) = [wFill,dig k]) (by decide) (by decide) (by decide) (by decide) (by decide) (by decide) hk
theorem cut_put8 {k : Nat} (hk : k < 6) : cut 32 (lPut8 k) = [wPut,dig k,[56]]:=
 six (P:=fun k=>cut 32 (lPut8 k) = [wPut,dig k,[56]]) (by decide) (by decide) (by decide) (by decide) (by decide) (by decide) hk
theorem num_dig {k : Nat} (hk : k < 6) : numB (dig k) = (k : Int) + 1:=
 six (P:=fun k=>numB (dig k) = (k : Int) + 1) (by decide) (by decide) (by decide) (by decide) (by decide) (by decide) hk
def fE (k : Nat) : Event:=⟨2,(k : Int) + 1,0,60,false⟩
def lE (k : Nat) : Event:=⟨3,(k : Int) + 1,0,60,false⟩
def pE (k : Nat) : Event:=⟨1,(k : Int) + 1,8,60,false⟩
theorem line_flush (s : Store) {k : Nat} (hk : k < 6) : lineDo s (lFlush k) = (playDoS s (fE k),[]):=by
 unfold lineDo
 rw [cut_flush hk,wd3 s (ws:=[wFlush,dig k]) (show ¬ wFlush = wPut by decide) (show ¬ wFlush = wFall by decide) rfl]
 unfold evFlush fE
 rw [show atS [wFlush,dig k] 1 = numB (dig k) from rfl,num_dig hk]
theorem line_fill (s : Store) {k : Nat} (hk : k < 6) : lineDo s (lFill k) = (playDoS s (lE k),[]):=by
 unfold lineDo
 rw [cut_fill hk,wd4 s (ws:=[wFill,dig k]) (show ¬ wFill = wPut by decide) (show ¬ wFill = wFall by decide) (show ¬ wFill = wFlush by decide) rfl]
 unfold evFill lE
 rw [show atS [wFill,dig k] 1 = numB (dig k) from rfl,num_dig hk]
theorem line_put8 (s : Store) {k : Nat} (hk : k < 6) : lineDo s (lPut8 k) = (playDoS s (pE k),[]):=by
 unfold lineDo
 rw [cut_put8 hk,wd1 s rfl]
 unfold evPut pE
 rw [show atS [wPut,dig k,[56]] 1 = numB (dig k) from rfl,num_dig hk]
 rfl
theorem line_all (s : Store) : lineDo s [97,108,108] = (playAllS s,[]):=by
 unfold lineDo
 rw [show cut 32 [97,108,108] = [wAll] by decide,wd5 s (by decide) (by decide) (by decide) (by decide) rfl]
theorem line_see (s : Store) : lineDo s [115,101,101] = (s,flashS s.flash):=by
 unfold lineDo
 rw [show cut 32 [115,101,101] = [wSee] by decide,wd6 s (by decide) (by decide) (by decide) (by decide) (by decide) rfl]
theorem line_dirty (s : Store) : lineDo s [100,105,114,116,121] = (s,numsS wDirty (dirtyL s)):=by
 unfold lineDo
 rw [show cut 32 [100,105,114,116,121] = [wDirty] by decide,wd8 s (by decide) (by decide) (by decide) (by decide) (by decide) (by decide) (by decide) rfl]
theorem line_what (s : Store) : lineDo s [119,104,97,116] = (s,wWhat):=by
 unfold lineDo
 rw [show cut 32 [119,104,97,116] = [[119,104,97,116]] by decide,wd9 s (by decide) (by decide) (by decide) (by decide) (by decide) (by decide) (by decide) (by decide)]
theorem Keeps.all {g g' : Nat → Int} {xs : List Step} {s : Store} (h : Keeps g g' s xs) {n : Nat} (hn : n < 6) : readN (doAll s xs) n = g' n:=by
 have:=h.to xs.length false n hn
 rw [if_neg (by simp),List.take_length,if_pos (Nat.le_refl _)] at this
 exact this
theorem readN_live {s t : Store} {n : Nat} (hf : t.flash = s.flash) (h0 : 0 < (last s.flash ((n : Int) + 1)).seq) : readN t n = readN s n:=by
 unfold readN;rw [hf,if_pos h0,if_pos h0]
theorem read_flush {s : Store} (h : storeOkB s = true) {n : Nat} (hn : n < 6) {m : Nat} (hm : m < 6) : readN (allStep s n) m = readN s m:=by
 unfold allStep flushSteps
 split
 ·rename_i hd
  split
  ·rfl
  ·rename_i hne
   have hS:=storeOk_iff.1 h
   unfold dirtyB at hd
   rw [Bool.and_eq_true,decide_eq_true_eq,beq_iff_eq] at hd
   have hv : readN s n = (last s.flash ((n : Int) + 1)).val:=by unfold readN;rw [if_pos hd.1]
   have hok:=last_ok hS.ord.ok ((n : Int) + 1)
   have hvb : 0 ≤ readN s n ∧ readN s n ≤ 9:=by
    rw [hv]
    rcases hok with h0 | ⟨h0,_⟩
    ·rw [h0] at hd;exact absurd hd.1 (by decide)
    ·exact (recOkB_iff.1 h0).2.2.2
   have hs1:=safe_tell hS (x:=⟨1,(n : Int) + 1,readN s n,0,rec0⟩) rfl ⟨by dsimp only;omega,by dsimp only;omega⟩ hvb hd.2
   have e1 : doAll s (⟨1,(n : Int) + 1,readN s n,0,rec0⟩ :: writeSteps s.flash 2 ((n : Int) + 1) (readN s n)) = doAll (doStep s ⟨1,(n : Int) + 1,readN s n,0,rec0⟩ false) (writeSteps s.flash 2 ((n : Int) + 1) (readN s n)):=rfl
   rw [e1]
   have hfl : (doStep s ⟨1,(n : Int) + 1,readN s n,0,rec0⟩ false).flash = s.flash:=tell_flash s _ _ rfl
   have hrd : ∀ j,j < 6 → readN (doStep s ⟨1,(n : Int) + 1,readN s n,0,rec0⟩ false) j = readN s j:=by
    intro j hj
    by_cases hjn : j = n
    ·subst hjn
     exact readN_live hfl hd.1
    ·refine readN_eq (by rw [hfl]) ?_
     rw [hs1.2.1]
     dsimp only
     rw [show ((n : Int) + 1 - 1).toNat = n by omega,List.getD_eq_getElem?_getD,List.getD_eq_getElem?_getD,List.getElem?_set_ne (Ne.symm hjn)]
   have hS1:=hs1.2.2
   generalize doStep s ⟨1,(n : Int) + 1,readN s n,0,rec0⟩ false = s1 at *
   have hk:=keepsW hS1 2 ((n : Int) + 1) (readN s n) (by rw [hfl];exact hne)
   rw [hfl] at hk
   rw [hk.all hm]
   split
   ·have : m = n:=by omega
    subst this;rfl
   ·exact hrd m hm
 ·rfl
theorem read_fill {s : Store} (h : storeOkB s = true) {n : Nat} (hn : n < 6) {m : Nat} (hm : m < 6) : readN (doAll s (fillSteps s n)) m = readN s m:=by
 unfold fillSteps
 split
 ·rfl
 ·rename_i h0
  by_cases hne : writeSteps s.flash 2 ((n : Int) + 1) (s.disk.getD n 0) = []
  ·rw [hne];rfl
  ·rw [(keepsW (storeOk_iff.1 h) 2 ((n : Int) + 1) _ hne).all hm]
   split
   ·have : m = n:=by omega
    subst this
    unfold readN;rw [if_neg h0]
   ·rfl
theorem all_of_read {s t : Store} (h : ∀ m,m < 6 → readN t m = readN s m) : allS t = allS s:=by
 unfold allS
 exact List.map_congr_left fun m hm=>h m (by simpa using hm)
theorem play_flush {s : Store} (h : storeOkB s = true) {k : Nat} (hk : k < 6) : playDoS s (fE k) = allStep s k:=by
 have:=do_whole h (fE k) (show ¬ (2 : Int) = 4 by decide)
 rw [show wholeE (fE k) = fE k from rfl] at this
 rw [this]
 unfold playSteps fE allStep
 rw [if_neg (show ¬ (2 : Int) = 1 by decide),if_pos rfl,addrStep_at _ k hk]
theorem play_fill {s : Store} (h : storeOkB s = true) {k : Nat} (hk : k < 6) : playDoS s (lE k) = doAll s (fillSteps s k):=by
 have:=do_whole h (lE k) (show ¬ (3 : Int) = 4 by decide)
 rw [show wholeE (lE k) = lE k from rfl] at this
 rw [this]
 unfold playSteps lE
 rw [if_neg (show ¬ (3 : Int) = 1 by decide),if_neg (show ¬ (3 : Int) = 2 by decide),if_pos rfl,addrStep_at _ k hk]
theorem read_all {s : Store} (h : storeOkB s = true) : allS (playAllS s) = allS s:=by
 have : ∀ (L : List Nat) (s : Store),storeOkB s = true → (∀ n ∈ L,n < 6) → allS (L.foldl allStep s) = allS s:=by
  intro L
  induction L with
  | nil=>intro s _ _;rfl
  | cons n L ih =>
   intro s h hL
   rw [List.foldl_cons,ih _ (storeOk_flush h (hL n (by simp))) fun m hm=>hL m (by simp [hm])]
   exact all_of_read fun m hm=>read_flush h (hL n (by simp)) hm
 exact this addrs6 s h (by decide)
theorem play_put8 (s : Store) (k : Nat) : playDoS s (pE k) = toSteps s (writeSteps s.flash 1 ((k : Int) + 1) 8) 60 false:=by
 unfold playDoS pE
 rw [if_neg (show ¬ (1 : Int) = 4 by decide),if_neg (show ¬ (60 : Int) < 0 by decide)]
 rfl
theorem put_twice {s : Store} (h : storeOkB s = true) (k : Nat) : allS (playDoS (playDoS s (pE k)) (pE k)) = allS (playDoS s (pE k)):=by
 refine all_of_read fun m hm=>?_
 have h1:=storeOk_play h (pE k)
 have hp:=play_put8 s k
 rw [play_put8 (playDoS s (pE k)) k]
 generalize playDoS s (pE k) = s1 at *
 have r1:=read_put (storeOk_iff.1 h) ((k : Int) + 1) 8 60 false m hm
 rw [← hp] at r1
 rw [read_put (storeOk_iff.1 h1) ((k : Int) + 1) 8 60 false m hm]
 by_cases hne : writeSteps s.flash 1 ((k : Int) + 1) 8 = []
 ·rw [hne,toSteps_nil] at hp
  subst hp
  rw [hne,if_neg (by simp)]
 ·rw [if_pos ⟨hne,by have:=play_le (storeOk_P h).flash (pE k);exact Nat.le_trans this (by decide)⟩] at r1
  split
  ·rw [r1];split <;> rfl
  ·rfl
theorem flush_twice {s : Store} (h : storeOkB s = true) (k : Nat) : playDoS (playDoS s (fE k)) (fE k) = playDoS s (fE k):=(again_cost h (fE k) rfl).2
theorem write_yes {f : List Block} (h : Ord f) (hw : ∀ b ∈ f,b.worn ≤ 190) (hn : next f ≤ 590) {a v : Int} (ha : 1 ≤ a ∧ a ≤ 6) (hv : 0 ≤ v ∧ v ≤ 9) : writeSteps f 2 a v ≠ []:=by
 have h0 : 0 ≤ maxSeq f:=(maxSeq_bd (flashOk_iff.2 h.ok)).1
 have hr : recOkB ⟨2,next f,a,v⟩ = true:=recOkB_iff.2 ⟨⟨by dsimp only;omega,by dsimp only;omega⟩,⟨by dsimp only;unfold next;omega,by dsimp only;omega⟩,ha,hv⟩
 have hc : (room f).2.2 = true:=by
  unfold room
  by_cases ho : (openB f).2 = true
  ·rw [if_pos ho]
  ·rw [if_neg ho]
   have hol:=old_lt (f:=f) (by have:=h.ok.len;omega)
   have:=hw _ (blockAt_mem hol)
   simp;omega
 unfold writeSteps
 rw [hc,hr,if_pos (by rfl)]
 simp
theorem flush_clean {s : Store} (h : storeOkB s = true) (hw : ∀ b ∈ s.flash,b.worn ≤ 190) (hn : next s.flash ≤ 590) {n : Nat} (hn6 : n < 6) {m : Nat} (hd : dirtyB (allStep s n) ((m : Int) + 1) = true) : dirtyB s ((m : Int) + 1) = true ∧ m ≠ n:=by
 have hS:=storeOk_iff.1 h
 by_cases hdn : dirtyB s ((n : Int) + 1) = true
 ·have hne:=write_yes hS.ord hw hn (a:=(n : Int) + 1) (v:=readN s n) ⟨by omega,by omega⟩ (by
   unfold dirtyB at hdn
   rw [Bool.and_eq_true,decide_eq_true_eq,beq_iff_eq] at hdn
   unfold readN
   rw [if_pos hdn.1]
   rcases last_ok hS.ord.ok ((n : Int) + 1) with h0 | ⟨h0,_⟩
   ·rw [h0] at hdn;exact absurd hdn.1 (by decide)
   ·exact (recOkB_iff.1 h0).2.2.2)
  have hne2 : flushSteps s n ≠ []:=by
   unfold flushSteps
   rw [if_pos hdn,if_neg hne]
   simp
  obtain ⟨v,_,hwv,hfl⟩:=flush_do hne2
  have hd' : dirtyF (allStep s n).flash ((m : Int) + 1) = true:=hd
  rw [hfl,wrote_dirty hS.ord hwv] at hd'
  split at hd'
  ·exact absurd hd' (by decide)
  ·rename_i hmn
   exact ⟨dirty_room hS.ord (write_some hwv).1 _ hd',fun e=>hmn (by rw [e])⟩
 ·have e : allStep s n = s:=by unfold allStep flushSteps;rw [if_neg hdn];rfl
  rw [e] at hd
  exact ⟨hd,fun e2=>hdn (by rw [← e2];exact hd)⟩
theorem flush_bds {s : Store} (h : storeOkB s = true) {n : Nat} {p q : Int} (hw : ∀ b ∈ s.flash,b.worn ≤ p) (hn : next s.flash ≤ q) (hp : 0 ≤ p) : (∀ b ∈ (allStep s n).flash,b.worn ≤ p + 1) ∧ next (allStep s n).flash ≤ q + 1:=by
 by_cases hne : flushSteps s n = []
 ·have e : allStep s n = s:=by unfold allStep;rw [hne];rfl
  rw [e]
  exact ⟨fun b hb=>by have:=hw b hb;omega,by omega⟩
 ·obtain ⟨v,_,hwv,hfl⟩:=flush_do hne
  rw [hfl]
  have hS:=storeOk_iff.1 h
  exact ⟨wrote_worn hS.ord hwv hw,by have:=wrote_next hS.ord hwv;omega⟩
theorem flushes_clean : ∀ (L : List Nat) (s : Store) (p q : Int),storeOkB s = true → (∀ b ∈ s.flash,b.worn ≤ p) → next s.flash ≤ q → 0 ≤ p → p + L.length ≤ 190 → q + L.length ≤ 590 → (∀ n ∈ L,n < 6) →
  ∀ m : Nat,dirtyB (L.foldl allStep s) ((m : Int) + 1) = true → dirtyB s ((m : Int) + 1) = true ∧ m ∉ L
 | [],s,p,q,h,hw,hn,hp,h1,h2,hL,m,hd=>⟨hd,by simp⟩
 | n :: L,s,p,q,h,hw,hn,hp,h1,h2,hL,m,hd=>by
  rw [List.length_cons] at h1 h2
  obtain ⟨b1,b2⟩:=flush_bds h (n:=n) hw hn hp
  have ih:=flushes_clean L (allStep s n) (p + 1) (q + 1) (storeOk_flush h (hL n (by simp))) b1 b2 (by omega) (by omega) (by omega) (fun k hk=>hL k (by simp [hk])) m hd
  have h3:=flush_clean h (fun b hb=>by have:=hw b hb;omega) (by omega) (hL n (by simp)) ih.1
  exact ⟨h3.1,fun hm=>by rcases List.mem_cons.1 hm with e | e;exact h3.2 e;exact ih.2 e⟩
theorem all_clean {s : Store} (h : storeOkB s = true) (hw : ∀ b ∈ s.flash,b.worn ≤ 75) (hn : next s.flash ≤ 301) : dirtyL (playAllS s) = []:=by
 unfold dirtyL
 rw [List.map_eq_nil_iff,List.filter_eq_nil_iff]
 intro m hm hd
 exact (flushes_clean addrs6 s 75 301 h hw hn (by omega) (by decide) (by decide) (by decide) m hd).2 hm
end Go.Bu
namespace Go.Bu
open Go Go.RowKit Go.Plan Go.Proofs
def unl (ls : List Str) : Str:=ls.flatMap fun l=>l ++ [10]
theorem cut_unl : ∀ ls : List Str,(∀ l ∈ ls,cut 10 l = [l]) → (cut 10 (unl ls)).dropLast = ls
 | [],_=>rfl
 | l :: ls,h=>by
  have e : unl (l :: ls) = l ++ 10 :: unl ls:=by unfold unl;rw [List.flatMap_cons,List.append_assoc];rfl
  rw [e,cut_append,h l (by simp),List.singleton_append,List.dropLast_cons_of_ne_nil (cut_ne _ _),cut_unl ls fun x hx=>h x (by simp [hx])]
theorem run_unl {t : Str} (hT : LinesT t) (ls : List Str) (h : ∀ l ∈ ls,cut 10 l = [l]) (hl : (t ++ unl ls).length ≤ 600) : linesRun (t ++ unl ls) = (linesDo (runS t) ls).2 ++ numsS wAll (allS (linesDo (runS t) ls).1):=by
 rw [linesRun_app hT _ hl,cut_unl ls h]
theorem do_one (r : Store × Str) (l : Str) : linesDo r [l] = ((lineDo r.1 l).1,r.2 ++ (lineDo r.1 l).2):=rfl
theorem do_cons (r : Store × Str) (l : Str) (ls : List Str) : linesDo r (l :: ls) = linesDo ((lineDo r.1 l).1,r.2 ++ (lineDo r.1 l).2) ls:=rfl
theorem do_nil (r : Store × Str) : linesDo r [] = r:=rfl
theorem one_put8 {k : Nat} (hk : k < 6) : cut 10 (lPut8 k) = [lPut8 k]:=six (P:=fun k=>cut 10 (lPut8 k) = [lPut8 k]) (by decide) (by decide) (by decide) (by decide) (by decide) (by decide) hk
theorem one_flush {k : Nat} (hk : k < 6) : cut 10 (lFlush k) = [lFlush k]:=six (P:=fun k=>cut 10 (lFlush k) = [lFlush k]) (by decide) (by decide) (by decide) (by decide) (by decide) (by decide) hk
theorem one_fill {k : Nat} (hk : k < 6) : cut 10 (lFill k) = [lFill k]:=six (P:=fun k=>cut 10 (lFill k) = [lFill k]) (by decide) (by decide) (by decide) (by decide) (by decide) (by decide) hk
theorem law_twice {t : Str} (hT : LinesT t) (ht : t.length ≤ 560) {k : Nat} (hk : k < 6) : linesRun (t ++ unl [lPut8 k,lPut8 k]) = linesRun (t ++ unl [lPut8 k]):=by
 have hl : (lPut8 k).length = 7:=rfl
 rw [run_unl hT _ (by intro l h;simp at h;rw [h];exact one_put8 hk) (by simp [unl];omega),run_unl hT _ (by intro l h;simp at h;rw [h];exact one_put8 hk) (by simp [unl];omega)]
 have h:=runS_ok t
 rw [do_cons,do_one,do_one,line_put8 _ hk]
 dsimp only
 rw [line_put8 _ hk]
 dsimp only
 rw [List.append_nil,List.append_nil,put_twice h k]
theorem law_flush {t : Str} (hT : LinesT t) (ht : t.length ≤ 560) {k : Nat} (hk : k < 6) : linesRun (t ++ unl [lFlush k,lFlush k,[115,101,101]]) = linesRun (t ++ unl [lFlush k,[115,101,101]]):=by
 have hl : (lFlush k).length = 7:=rfl
 have hc : ∀ l ∈ [lFlush k,lFlush k,[115,101,101]],cut 10 l = [l]:=by
  intro l h
  rcases List.mem_cons.1 h with rfl | h
  ·exact one_flush hk
  ·rcases List.mem_cons.1 h with rfl | h
   ·exact one_flush hk
   ·rw [List.mem_singleton.1 h];decide
 rw [run_unl hT _ hc (by simp [unl];omega),run_unl hT _ (fun l h=>hc l (List.mem_cons_of_mem _ h)) (by simp [unl];omega)]
 have h:=runS_ok t
 simp only [do_cons,do_nil,line_flush _ hk,line_see,List.append_nil,flush_twice h k]
theorem law_quiet3 {t : Str} (hT : LinesT t) (ht : t.length ≤ 560) {k : Nat} (hk : k < 6) : linesRun (t ++ unl [lFlush k,lFill k,[97,108,108]]) = linesRun t:=by
 have hl : (lFlush k).length = 7:=rfl
 have hl2 : (lFill k).length = 6:=rfl
 have hc : ∀ l ∈ [lFlush k,lFill k,[97,108,108]],cut 10 l = [l]:=by
  intro l h
  rcases List.mem_cons.1 h with rfl | h
  ·exact one_flush hk
  ·rcases List.mem_cons.1 h with rfl | h
   ·exact one_fill hk
   ·rw [List.mem_singleton.1 h];decide
 rw [run_unl hT _ hc (by simp [unl];omega),linesRun_at (by omega)]
 have h:=runS_ok t
 have h1:=storeOk_play h (fE k)
 have h2:=storeOk_play h1 (lE k)
 rw [do_cons,do_cons,do_one,line_flush _ hk]
 dsimp only
 rw [line_fill _ hk]
 dsimp only
 rw [line_all]
 dsimp only
 rw [List.append_nil,List.append_nil,List.append_nil,read_all h2]
 congr 2
 rw [play_fill h1 hk]
 rw [play_flush h hk] at h1 ⊢
 rw [all_of_read fun m hm=>read_fill h1 hk hm,all_of_read fun m hm=>read_flush h hk hm]
theorem law_what {t : Str} (hT : LinesT t) (ht : t.length ≤ 560) : linesRun (t ++ unl [[119,104,97,116]]) = (runS t).2 ++ wWhat ++ numsS wAll (allS (runS t).1):=by
 rw [run_unl hT _ (by intro l h;rw [List.mem_singleton.1 h];decide) (by simp [unl];omega),do_one,line_what]
theorem law_seewhat {t : Str} (hT : LinesT t) (ht : t.length ≤ 560) : linesRun (t ++ unl [[115,101,101],[119,104,97,116]]) = (runS t).2 ++ flashS (runS t).1.flash ++ wWhat ++ numsS wAll (allS (runS t).1):=by
 rw [run_unl hT _ (by intro l h;rcases List.mem_cons.1 h with rfl | h;decide;rw [List.mem_singleton.1 h];decide) (by simp [unl];omega),do_cons,do_one,line_see]
 dsimp only
 rw [line_what]
theorem flashS_pos {f : List Block} (h : 0 < f.length) : 0 < (flashS f).length:=by
 cases f with
 | nil=>simp at h
 | cons b f =>
  unfold flashS
  rw [List.foldl_cons,List.nil_append,show blockS b = blockS b ++ [] from (List.append_nil _).symm,fold_pre]
  have : 0 < (blockS b).length:=by unfold blockS;simp;omega
  simp;omega
theorem law_all {t : Str} (hT : LinesT t) (ht : t.length ≤ 560) : linesRun (t ++ unl [[97,108,108],[100,105,114,116,121]]) = (runS t).2 ++ [100,105,114,116,121,10] ++ numsS wAll (allS (playAllS (runS t).1)):=by
 have hb:=run_bound (ls:=(cut 10 t).dropLast) (by have:=cut_lines (text:=t) (by omega);exact this)
 rw [run_unl hT _ (by intro l h;rcases List.mem_cons.1 h with rfl | h;decide;rw [List.mem_singleton.1 h];decide) (by simp [unl];omega),do_cons,do_one,line_all]
 dsimp only
 rw [line_dirty]
 dsimp only
 have hcl : dirtyL (playAllS (runS t).1) = []:=all_clean hb.1 (fun b hm=>(hb.2.1 b hm).2) hb.2.2
 rw [hcl,List.append_nil]
 rfl
end Go.Bu
namespace Go.Bu
open Go Go.RowKit Go.Plan Go.Proofs
theorem dig_at (k : Nat) (h : k < 6) : (#[.string ⟨#[49]⟩,.string ⟨#[50]⟩,.string ⟨#[51]⟩,.string ⟨#[52]⟩,.string ⟨#[53]⟩,.string ⟨#[54]⟩] : Array Value)[k]? = some (.string ⟨(dig k).toArray⟩):=
 six (P:=fun k=>(#[.string ⟨#[49]⟩,.string ⟨#[50]⟩,.string ⟨#[51]⟩,.string ⟨#[52]⟩,.string ⟨#[53]⟩,.string ⟨#[54]⟩] : Array Value)[k]? = some (.string ⟨(dig k).toArray⟩)) rfl rfl rfl rfl rfl rfl h
theorem dig_get (k : Nat) (hk : k < 6) : ∀ (h : k < [Value.string ⟨#[49]⟩,.string ⟨#[50]⟩,.string ⟨#[51]⟩,.string ⟨#[52]⟩,.string ⟨#[53]⟩,.string ⟨#[54]⟩].length),[Value.string ⟨#[49]⟩,.string ⟨#[50]⟩,.string ⟨#[51]⟩,.string ⟨#[52]⟩,.string ⟨#[53]⟩,.string ⟨#[54]⟩][k]'h = .string ⟨(dig k).toArray⟩:=fun h=>by
 have : ([Value.string ⟨#[49]⟩,.string ⟨#[50]⟩,.string ⟨#[51]⟩,.string ⟨#[52]⟩,.string ⟨#[53]⟩,.string ⟨#[54]⟩] : List Value)[k]? = some (.string ⟨(dig k).toArray⟩):=by simpa using dig_at k hk
 rw [List.getElem?_eq_getElem h] at this
 exact Option.some.inj this
set_option maxRecDepth 20000 in
set_option maxHeartbeats 4000000 in
theorem lawLinesTwice (v : Value) (xs : List Nat) (v2 : Value) (ys : List Nat) (w : World) (h : Bytes (Old w) w v xs) (hs : ∀ x ∈ xs,x < 256) (hcap : ∀ a n c,v = .slice a n c → n ≤ c) (h2 : Bytes (Old w) w v2 ys) (hs2 : ∀ x ∈ ys,x < 256) (hcap2 : ∀ a n c,v2 = .slice a n c → n ≤ c) (hV : VarsAt w) :
  Calls Tryz.prog 3 #[v,v2] w (TrueE w):=by
 obtain ⟨a,cap,rfl⟩:=h.form
 obtain ⟨a2,cap2,rfl⟩:=h2.form
 clear h2 hs2 hcap2
 by_cases hl : xs.length ≤ 1048576
 rotate_left
 focus
  go_enter Tryz.func3,Tryz.ntmps3
  go_wp2_with fail
  go_ret
  exact ⟨rfl,ext_refl _⟩
 by_cases hl2 : ys.length ≤ 1048576
 rotate_left
 focus
  go_enter Tryz.func3,Tryz.ntmps3
  go_wp2_with fail
  go_ret
  exact ⟨rfl,ext_refl _⟩
 go_enter Tryz.func3,Tryz.ntmps3
 go_wp2_with fail
 refine (drawLinesRun_c _ xs _ h hs hl hcap).mono ?_;rintro e1 w1 ⟨t,rfl,hx1,hT,ht⟩
 have hV1:=hV.ext hx1
 clear hs hl hcap h hV
 go_wp2_with fail
 refine (implRun_c t _ hV1 (by omega)).mono ?_;rintro e2 w2 ⟨rfl,hx2⟩
 have hV2:=hV1.ext hx2
 have X2:=ext_trans hx1 hx2
 clear hx1 hx2 hV1
 go_wp2_with fail
 refine (specLinesRun_c t (by omega) _).mono ?_;rintro e3 w3 ⟨rfl,hx3⟩
 have hV3:=hV2.ext hx3
 have X3:=ext_trans X2 hx3
 clear hx3 X2 hV2
 by_cases h560 : t.length ≤ 560
 rotate_left
 focus
  have h560' : (560 : Int) < (t.length : Int):=by omega
  have hsp:=fun w=>specLinesRun_c t (by omega) w
  generalize linesRun t = A at *
  go_wp2_with fail
  refine (hsp _).mono ?_;rintro e4 w4 ⟨rfl,hx4⟩
  have X4:=ext_trans X3 hx4
  go_wp2_with fail
  go_ret
  exact ⟨rfl,X4⟩
 have h560' : ¬ (560 : Int) < (t.length : Int):=by omega
 obtain ⟨k,hk⟩ : ∃ k,ys.length % 6 = k:=⟨_,rfl⟩
 have hk6 : k < 6:=by omega
 have hmod : ((ys.length : Nat) : Int).tmod 6 = (k : Int):=by rw [Int.tmod_eq_emod_of_nonneg (by omega)];omega
 have hk6' : (k : Int) < 6:=by omega
 have hG:=dig_get k hk6
 have hdl : (dig k).length = 1:=rfl
 have hlaw:=law_twice hT h560 hk6
 have e1 : unl [lPut8 k] = 112 :: 117 :: 116 :: 32 :: (dig k ++ [32,56,10]):=rfl
 have e2 : unl [lPut8 k,lPut8 k] = unl [lPut8 k] ++ unl [lPut8 k]:=rfl
 rw [e2] at hlaw
 have hS : (unl [lPut8 k]).length = 8:=rfl
 have hA1:=str_addz (P:=Tryz.prog) (x:=[112,117,116,32]) (y:=dig k) (112 :: 117 :: 116 :: 32 :: dig k) rfl (by simp;omega)
 have hA2:=str_addz (P:=Tryz.prog) (x:=112 :: 117 :: 116 :: 32 :: dig k) (y:=[32,56,10]) (unl [lPut8 k]) rfl (by simp;omega)
 have hA3:=str_add (P:=Tryz.prog) t (unl [lPut8 k]) (by omega)
 have hA4:=str_addz (P:=Tryz.prog) (x:=t ++ unl [lPut8 k]) (y:=unl [lPut8 k]) (t ++ (unl [lPut8 k] ++ unl [lPut8 k])) (by simp) (by simp;omega)
 have hi1:=fun w hv=>implRun_c (t ++ (unl [lPut8 k] ++ unl [lPut8 k])) w hv (by simp;omega)
 have hi2:=fun w hv=>implRun_c (t ++ unl [lPut8 k]) w hv (by simp;omega)
 rw [hlaw] at hi1
 have HI1:=Lib.hid hi1;have HI2:=Lib.hid hi2
 clear hi1 hi2 e1 e2 hlaw hS
 generalize unl [lPut8 k] = S at *
 generalize dig k = D at *
 generalize linesRun t = A at *
 generalize linesRun (t ++ S) = B at *
 go_wp2_with fail
 refine (HI1.out _ (hV3.ext (ext_alloc (ext_refl _) _))).mono ?_;rintro e4 w4 ⟨rfl,hx4⟩
 have X4:=ext_trans (ext_alloc X3 _) hx4
 have hV4:=(hV3.ext (ext_alloc (ext_refl _) (.cells #[.string ⟨#[49]⟩,.string ⟨#[50]⟩,.string ⟨#[51]⟩,.string ⟨#[52]⟩,.string ⟨#[53]⟩,.string ⟨#[54]⟩] 9))).ext hx4
 clear hx4
 go_wp2_with fail
 refine (HI2.out _ hV4).mono ?_;rintro e5 w5 ⟨rfl,hx5⟩
 have X5:=ext_trans X4 hx5
 go_wp2_with fail
 go_ret
 exact ⟨rfl,X5⟩
set_option maxRecDepth 20000 in
set_option maxHeartbeats 4000000 in
theorem lawLinesFlush (v : Value) (xs : List Nat) (v2 : Value) (ys : List Nat) (w : World) (h : Bytes (Old w) w v xs) (hs : ∀ x ∈ xs,x < 256) (hcap : ∀ a n c,v = .slice a n c → n ≤ c) (h2 : Bytes (Old w) w v2 ys) (hs2 : ∀ x ∈ ys,x < 256) (hcap2 : ∀ a n c,v2 = .slice a n c → n ≤ c) (hV : VarsAt w) :
  Calls Tryz.prog 10 #[v,v2] w (TrueE w):=by
 obtain ⟨a,cap,rfl⟩:=h.form
 obtain ⟨a2,cap2,rfl⟩:=h2.form
 clear h2 hs2 hcap2
 by_cases hl : xs.length ≤ 1048576
 rotate_left
 focus
  go_enter Tryz.func10,Tryz.ntmps10
  go_wp2_with fail
  go_ret
  exact ⟨rfl,ext_refl _⟩
 by_cases hl2 : ys.length ≤ 1048576
 rotate_left
 focus
  go_enter Tryz.func10,Tryz.ntmps10
  go_wp2_with fail
  go_ret
  exact ⟨rfl,ext_refl _⟩
 go_enter Tryz.func10,Tryz.ntmps10
 go_wp2_with fail
 refine (drawLinesRun_c _ xs _ h hs hl hcap).mono ?_;rintro e1 w1 ⟨t,rfl,hx1,hT,ht⟩
 have hV1:=hV.ext hx1
 clear hs hl hcap h hV
 go_wp2_with fail
 refine (implRun_c t _ hV1 (by omega)).mono ?_;rintro e2 w2 ⟨rfl,hx2⟩
 have hV2:=hV1.ext hx2
 have X2:=ext_trans hx1 hx2
 clear hx1 hx2 hV1
 go_wp2_with fail
 refine (specLinesRun_c t (by omega) _).mono ?_;rintro e3 w3 ⟨rfl,hx3⟩
 have hV3:=hV2.ext hx3
 have X3:=ext_trans X2 hx3
 clear hx3 X2 hV2
 by_cases h560 : t.length ≤ 560
 rotate_left
 focus
  have h560' : (560 : Int) < (t.length : Int):=by omega
  have hsp:=fun w=>specLinesRun_c t (by omega) w
  generalize linesRun t = A at *
  go_wp2_with fail
  refine (hsp _).mono ?_;rintro e4 w4 ⟨rfl,hx4⟩
  have X4:=ext_trans X3 hx4
  go_wp2_with fail
  go_ret
  exact ⟨rfl,X4⟩
 have h560' : ¬ (560 : Int) < (t.length : Int):=by omega
 obtain ⟨k,hk⟩ : ∃ k,ys.length % 6 = k:=⟨_,rfl⟩
 have hk6 : k < 6:=by omega
 have hmod : ((ys.length : Nat) : Int).tmod 6 = (k : Int):=by rw [Int.tmod_eq_emod_of_nonneg (by omega)];omega
 have hk6' : (k : Int) < 6:=by omega
 have hG:=dig_get k hk6
 have hdl : (dig k).length = 1:=rfl
 have hlaw:=law_flush hT h560 hk6
 have e1 : unl [lFlush k,lFlush k,[115,101,101]] = unl [lFlush k] ++ (unl [lFlush k] ++ [115,101,101,10]):=rfl
 have e2 : unl [lFlush k,[115,101,101]] = unl [lFlush k] ++ [115,101,101,10]:=rfl
 rw [e1,e2] at hlaw
 have hS : (unl [lFlush k]).length = 8:=rfl
 have hA1:=str_addz (P:=Tryz.prog) (x:=[102,108,117,115,104,32]) (y:=dig k) (102 :: 108 :: 117 :: 115 :: 104 :: 32 :: dig k) rfl (by simp;omega)
 have hA2:=str_addz (P:=Tryz.prog) (x:=102 :: 108 :: 117 :: 115 :: 104 :: 32 :: dig k) (y:=[10]) (unl [lFlush k]) rfl (by simp;omega)
 have hA3:=str_add (P:=Tryz.prog) t (unl [lFlush k]) (by omega)
 have hA4:=str_addz (P:=Tryz.prog) (x:=t ++ unl [lFlush k]) (y:=unl [lFlush k]) (t ++ (unl [lFlush k] ++ unl [lFlush k])) (by simp) (by simp;omega)
 have hA5:=str_addz (P:=Tryz.prog) (x:=t ++ (unl [lFlush k] ++ unl [lFlush k])) (y:=[115,101,101,10]) (t ++ (unl [lFlush k] ++ (unl [lFlush k] ++ [115,101,101,10]))) (by simp) (by simp;omega)
 have hA6:=str_addz (P:=Tryz.prog) (x:=t ++ unl [lFlush k]) (y:=[115,101,101,10]) (t ++ (unl [lFlush k] ++ [115,101,101,10])) (by simp) (by simp;omega)
 have hi1:=fun w hv=>implRun_c (t ++ (unl [lFlush k] ++ (unl [lFlush k] ++ [115,101,101,10]))) w hv (by simp;omega)
 have hi2:=fun w hv=>implRun_c (t ++ (unl [lFlush k] ++ [115,101,101,10])) w hv (by simp;omega)
 rw [hlaw] at hi1
 have HI1:=Lib.hid hi1;have HI2:=Lib.hid hi2
 clear hi1 hi2 e1 e2 hlaw hS
 generalize unl [lFlush k] = S at *
 generalize dig k = D at *
 generalize linesRun t = A at *
 generalize linesRun (t ++ (S ++ [115,101,101,10])) = B at *
 go_wp2_with fail
 refine (HI1.out _ (hV3.ext (ext_alloc (ext_refl _) _))).mono ?_;rintro e4 w4 ⟨rfl,hx4⟩
 have X4:=ext_trans (ext_alloc X3 _) hx4
 have hV4:=(hV3.ext (ext_alloc (ext_refl _) (.cells #[.string ⟨#[49]⟩,.string ⟨#[50]⟩,.string ⟨#[51]⟩,.string ⟨#[52]⟩,.string ⟨#[53]⟩,.string ⟨#[54]⟩] 9))).ext hx4
 clear hx4
 go_wp2_with fail
 refine (HI2.out _ hV4).mono ?_;rintro e5 w5 ⟨rfl,hx5⟩
 have X5:=ext_trans X4 hx5
 go_wp2_with fail
 go_ret
 exact ⟨rfl,X5⟩
set_option maxRecDepth 20000 in
set_option maxHeartbeats 2000000 in
theorem lawLinesAll (v : Value) (xs : List Nat) (w : World) (h : Bytes (Old w) w v xs) (hs : ∀ x ∈ xs,x < 256) (hcap : ∀ a n c,v = .slice a n c → n ≤ c) (hV : VarsAt w) :
  Calls Tryz.prog 7 #[v] w (TrueE w):=by
 obtain ⟨a,cap,rfl⟩:=h.form
 by_cases hl : xs.length ≤ 1048576
 rotate_left
 focus
  go_enter Tryz.func7,Tryz.ntmps7
  go_wp2_with fail
  go_ret
  exact ⟨rfl,ext_refl _⟩
 go_enter Tryz.func7,Tryz.ntmps7
 go_wp2_with fail
 refine (drawLinesRun_c _ xs _ h hs hl hcap).mono ?_;rintro e1 w1 ⟨t,rfl,hx1,hT,ht⟩
 have hV1:=hV.ext hx1
 clear hs hl hcap h hV
 go_wp2_with fail
 refine (implRun_c t _ hV1 (by omega)).mono ?_;rintro e2 w2 ⟨rfl,hx2⟩
 have hV2:=hV1.ext hx2
 have X2:=ext_trans hx1 hx2
 clear hx1 hx2 hV1
 go_wp2_with fail
 refine (specLinesRun_c t (by omega) _).mono ?_;rintro e3 w3 ⟨rfl,hx3⟩
 have hV3:=hV2.ext hx3
 have X3:=ext_trans X2 hx3
 clear hx3 X2 hV2
 by_cases h560 : t.length ≤ 560
 rotate_left
 focus
  have h560' : (560 : Int) < (t.length : Int):=by omega
  have hsp:=fun w=>specLinesRun_c t (by omega) w
  generalize linesRun t = A at *
  go_wp2_with fail
  refine (hsp _).mono ?_;rintro e4 w4 ⟨rfl,hx4⟩
  have X4:=ext_trans X3 hx4
  go_wp2_with fail
  go_ret
  exact ⟨rfl,X4⟩
 have h560' : ¬ (560 : Int) < (t.length : Int):=by omega
 have hi1:=fun w hv=>implRun_c [112,117,116,32,49,32,49,10,112,117,116,32,50,32,50,10,112,117,116,32,54,32,54,10,97,108,108,10,100,105,115,107,10,100,105,114,116,121,10] w hv (by decide)
 rw [run_all] at hi1
 have hlaw:=law_all hT h560
 have e1 : unl [[97,108,108],[100,105,114,116,121]] = [97,108,108,10,100,105,114,116,121,10]:=rfl
 rw [e1] at hlaw
 have hi2:=fun w hv=>implRun_c (t ++ [97,108,108,10,100,105,114,116,121,10]) w hv (by simp;omega)
 have hA1:=str_add (P:=Tryz.prog) t [97,108,108,10,100,105,114,116,121,10] (by simp;omega)
 obtain ⟨d0,d1,d2,d3,d4,d5,e⟩:=all_line (storeOk_playAll (runS_ok t))
 rw [e] at hlaw
 have hln:=run_len (t:=t) (by omega)
 rw [hlaw] at hi2
 clear e hlaw e1
 generalize (runS t).2 = P at *
 obtain ⟨B,hB⟩ : ∃ B : Str,P ++ [100,105,114,116,121,10] ++ [97,108,108,32,d0,32,d1,32,d2,32,d3,32,d4,32,d5,10] = B:=⟨_,rfl⟩
 have hBl : B.length = P.length + 22:=by rw [← hB];simp
 rw [hB] at hi2
 have hP : B.drop P.length = [100,105,114,116,121,10,97,108,108,32,d0,32,d1,32,d2,32,d3,32,d4,32,d5,10]:=by rw [← hB,List.append_assoc,List.drop_left];rfl
 have hs1:=str_slice (t:=9) (by kernel_rfl) B P.length (P.length + 6) (P.length : Int) ((P.length : Int) + 22 - 16) rfl (by omega) (by omega) (by omega) [100,105,114,116,121,10] (by rw [hP,Nat.add_sub_cancel_left];rfl)
 have hge : (22 : Int) ≤ (B.length : Int):=by omega
 have HI1:=Lib.hid hi1;have HI2:=Lib.hid hi2
 clear hi1 hi2 hB hP
 generalize linesRun t = A at *
 go_wp2_with fail
 refine (HI1.out _ hV3).mono ?_;rintro e4 w4 ⟨rfl,hx4⟩
 have hV4:=hV3.ext hx4
 have X4:=ext_trans X3 hx4
 go_wp2_with fail
 refine (HI2.out _ hV4).mono ?_;rintro e5 w5 ⟨rfl,hx5⟩
 have X5:=ext_trans X4 hx5
 go_wp2_with fail
 go_ret
 exact ⟨rfl,X5⟩
set_option maxRecDepth 20000 in
set_option maxHeartbeats 4000000 in
theorem lawLinesQuiet (v : Value) (xs : List Nat) (v2 : Value) (ys : List Nat) (w : World) (h : Bytes (Old w) w v xs) (hs : ∀ x ∈ xs,x < 256) (hcap : ∀ a n c,v = .slice a n c → n ≤ c) (h2 : Bytes (Old w) w v2 ys) (hs2 : ∀ x ∈ ys,x < 256) (hcap2 : ∀ a n c,v2 = .slice a n c → n ≤ c) (hV : VarsAt w) :
  Calls Tryz.prog 13 #[v,v2] w (TrueE w):=by
 obtain ⟨a,cap,rfl⟩:=h.form
 obtain ⟨a2,cap2,rfl⟩:=h2.form
 clear h2 hs2 hcap2
 by_cases hl : xs.length ≤ 1048576
 rotate_left
 focus
  go_enter Tryz.func13,Tryz.ntmps13
  go_wp2_with fail
  go_ret
  exact ⟨rfl,ext_refl _⟩
 by_cases hl2 : ys.length ≤ 1048576
 rotate_left
 focus
  go_enter Tryz.func13,Tryz.ntmps13
  go_wp2_with fail
  go_ret
  exact ⟨rfl,ext_refl _⟩
 go_enter Tryz.func13,Tryz.ntmps13
 go_wp2_with fail
 refine (drawLinesRun_c _ xs _ h hs hl hcap).mono ?_;rintro e1 w1 ⟨t,rfl,hx1,hT,ht⟩
 have hV1:=hV.ext hx1
 clear hs hl hcap h hV
 go_wp2_with fail
 refine (implRun_c t _ hV1 (by omega)).mono ?_;rintro e2 w2 ⟨rfl,hx2⟩
 have hV2:=hV1.ext hx2
 have X2:=ext_trans hx1 hx2
 clear hx1 hx2 hV1
 go_wp2_with fail
 refine (specLinesRun_c t (by omega) _).mono ?_;rintro e3 w3 ⟨rfl,hx3⟩
 have hV3:=hV2.ext hx3
 have X3:=ext_trans X2 hx3
 clear hx3 X2 hV2
 by_cases h560 : t.length ≤ 560
 rotate_left
 focus
  have h560' : (560 : Int) < (t.length : Int):=by omega
  have hsp:=fun w=>specLinesRun_c t (by omega) w
  generalize linesRun t = A at *
  go_wp2_with fail
  refine (hsp _).mono ?_;rintro e4 w4 ⟨rfl,hx4⟩
  have X4:=ext_trans X3 hx4
  go_wp2_with fail
  go_ret
  exact ⟨rfl,X4⟩
 have h560' : ¬ (560 : Int) < (t.length : Int):=by omega
 obtain ⟨k,hk⟩ : ∃ k,ys.length % 6 = k:=⟨_,rfl⟩
 have hk6 : k < 6:=by omega
 have hmod : ((ys.length : Nat) : Int).tmod 6 = (k : Int):=by rw [Int.tmod_eq_emod_of_nonneg (by omega)];omega
 have hk6' : (k : Int) < 6:=by omega
 have hG:=dig_get k hk6
 have hdl : (dig k).length = 1:=rfl
 have hw1:=law_what hT h560
 have hw2:=law_seewhat hT h560
 have hw3:=law_quiet3 hT h560 hk6
 rw [show unl [[119,104,97,116]] = [119,104,97,116,10] from rfl] at hw1
 rw [show unl [[115,101,101],[119,104,97,116]] = [115,101,101,10,119,104,97,116,10] from rfl] at hw2
 rw [show unl [lFlush k,lFill k,[97,108,108]] = 102 :: 108 :: 117 :: 115 :: 104 :: 32 :: (dig k ++ 10 :: 102 :: 105 :: 108 :: 108 :: 32 :: (dig k ++ [10,97,108,108,10])) from rfl] at hw3
 have hA:=linesRun_at (t:=t) (by omega)
 have hln:=run_len (t:=t) (by omega)
 have hfl:=flashS_pos (f:=(runS t).1.flash) (by have:=(storeOk_iff.1 (runS_ok t)).ord.ok.len;omega)
 have hfl2 : (flashS (runS t).1.flash).length ≤ 144:=by
  have hb:=run_bound (ls:=(cut 10 t).dropLast) (by have:=cut_lines (text:=t) (by omega);exact this)
  exact flashS_len (flashT_of hb.1 fun b hm=>(hb.2.1 b hm).2)
 have hnl : (numsS wAll (allS (runS t).1)).length = 16:=by
  obtain ⟨d0,d1,d2,d3,d4,d5,e⟩:=all_line (runS_ok t)
  rw [e];rfl
 have hi1:=fun w hv=>implRun_c (t ++ [119,104,97,116,10]) w hv (by simp;omega)
 have hi2:=fun w hv=>implRun_c (t ++ [115,101,101,10,119,104,97,116,10]) w hv (by simp;omega)
 have hi3:=fun w hv=>implRun_c (t ++ 102 :: 108 :: 117 :: 115 :: 104 :: 32 :: (dig k ++ 10 :: 102 :: 105 :: 108 :: 108 :: 32 :: (dig k ++ [10,97,108,108,10]))) w hv (by simp;omega)
 rw [hw3] at hi3
 have hL0 : (linesRun t).length = (runS t).2.length + 16:=by rw [hA,List.length_append,hnl]
 have hL1 : (linesRun (t ++ [119,104,97,116,10])).length = (linesRun t).length + 5:=by rw [hw1,List.length_append,List.length_append,hnl,hL0];have : wWhat.length = 5:=rfl;omega
 have hL2 : (linesRun (t ++ [119,104,97,116,10])).length < (linesRun (t ++ [115,101,101,10,119,104,97,116,10])).length:=by rw [hw1,hw2];simp only [List.length_append];omega
 have hL3 : (linesRun (t ++ [115,101,101,10,119,104,97,116,10])).length ≤ 200000:=by rw [hw2];simp only [List.length_append];have : wWhat.length = 5:=rfl;omega
 have hA1:=str_add (P:=Tryz.prog) t [119,104,97,116,10] (by simp;omega)
 have hA2:=str_add (P:=Tryz.prog) t [115,101,101,10,119,104,97,116,10] (by simp;omega)
 have hA3:=str_add (P:=Tryz.prog) t [102,108,117,115,104,32] (by simp;omega)
 have hA4:=str_addz (P:=Tryz.prog) (x:=t ++ [102,108,117,115,104,32]) (y:=dig k) (t ++ 102 :: 108 :: 117 :: 115 :: 104 :: 32 :: dig k) (by simp) (by simp;omega)
 have hA5:=str_addz (P:=Tryz.prog) (x:=t ++ 102 :: 108 :: 117 :: 115 :: 104 :: 32 :: dig k) (y:=[10,102,105,108,108,32]) (t ++ 102 :: 108 :: 117 :: 115 :: 104 :: 32 :: (dig k ++ [10,102,105,108,108,32])) (by simp) (by simp;omega)
 have hA6:=str_addz (P:=Tryz.prog) (x:=t ++ 102 :: 108 :: 117 :: 115 :: 104 :: 32 :: (dig k ++ [10,102,105,108,108,32])) (y:=dig k) (t ++ 102 :: 108 :: 117 :: 115 :: 104 :: 32 :: (dig k ++ 10 :: 102 :: 105 :: 108 :: 108 :: 32 :: dig k)) (by simp) (by simp;omega)
 have hA7:=str_addz (P:=Tryz.prog) (x:=t ++ 102 :: 108 :: 117 :: 115 :: 104 :: 32 :: (dig k ++ 10 :: 102 :: 105 :: 108 :: 108 :: 32 :: dig k)) (y:=[10,97,108,108,10]) (t ++ 102 :: 108 :: 117 :: 115 :: 104 :: 32 :: (dig k ++ 10 :: 102 :: 105 :: 108 :: 108 :: 32 :: (dig k ++ [10,97,108,108,10]))) (by simp) (by simp;omega)
 have HI1:=Lib.hid hi1;have HI2:=Lib.hid hi2;have HI3:=Lib.hid hi3
 clear hi1 hi2 hi3 hw1 hw2 hw3 hA hnl hfl hfl2 hL0
 generalize linesRun (t ++ [119,104,97,116,10]) = B1 at *
 generalize linesRun (t ++ [115,101,101,10,119,104,97,116,10]) = B2 at *
 generalize linesRun t = A at *
 generalize dig k = D at *
 have hc1 : (B1.length : Int) = (A.length : Int) + 5:=by omega
 have hc2 : (B1.length : Int) < (B2.length : Int):=by omega
 go_wp2_with fail
 refine (HI1.out _ hV3).mono ?_;rintro e4 w4 ⟨rfl,hx4⟩
 have hV4:=hV3.ext hx4
 have X4:=ext_trans X3 hx4
 clear hx4
 go_wp2_with fail
 refine (HI2.out _ hV4).mono ?_;rintro e5 w5 ⟨rfl,hx5⟩
 have hV5:=hV4.ext hx5
 have X5:=ext_trans X4 hx5
 clear hx5
 go_wp2_with fail
 refine (HI3.out _ (hV5.ext (ext_alloc (ext_refl _) _))).mono ?_;rintro e6 w6 ⟨rfl,hx6⟩
 have X6:=ext_trans (ext_alloc X5 _) hx6
 go_wp2_with fail
 go_ret
 exact ⟨rfl,X6⟩
def strLen : Value → Nat
 | .string b=>b.size
 | _=>0
theorem strLen_eq (t : Str) : strLen (strV t) = t.length:=by simp [strLen,ByteArray.size]
set_option maxRecDepth 20000 in
set_option maxHeartbeats 2000000 in
theorem lawLinesNone (v : Value) (xs : List Nat) (w : World) (h : Bytes (Old w) w v xs) (hs : ∀ x ∈ xs,x < 256) (hcap : ∀ a n c,v = .slice a n c → n ≤ c) (hV : VarsAt w) :
  Calls Tryz.prog 11 #[v] w (TrueE w):=by
 have hi1:=fun w hv=>implRun_c [] w hv (by decide)
 have hi2:=fun w hv=>implRun_c [119,104,97,116,10] w hv (by decide)
 have hi3:=fun w hv=>implRun_c [112,117,116,32,55,32,49,10,112,117,116,32,49,32,49,48,10,102,108,117,115,104,32,49,10,102,97,108,108,32,49,32,50,10] w hv (by decide)
 have hi4:=fun w hv=>implRun_c [100,105,114,116,121,10] w hv (by decide)
 rw [run_what] at hi2
 rw [run_none] at hi3
 rw [run_dirty] at hi4
 have hn : (linesRun []).length ≤ 100:=by rw [run_nil];decide
 have hA1:=str_add (P:=Tryz.prog) [119,104,97,116,10] (linesRun []) (by simp;omega)
 have hA2:=str_add (P:=Tryz.prog) [100,105,114,116,121,10] (linesRun []) (by simp;omega)
 generalize linesRun [] = N at *
 simp only [List.cons_append,List.nil_append] at hi2 hi4 hA1 hA2
 have HI1:=Lib.hid hi1;have HI2:=Lib.hid hi2;have HI3:=Lib.hid hi3;have HI4:=Lib.hid hi4
 clear hi1 hi2 hi3 hi4
 obtain ⟨a,cap,rfl⟩:=h.form
 by_cases hl : xs.length ≤ 1048576
 rotate_left
 focus
  go_enter Tryz.func11,Tryz.ntmps11
  go_wp2_with fail
  go_ret
  exact ⟨rfl,ext_refl _⟩
 go_enter Tryz.func11,Tryz.ntmps11
 go_wp2_with fail
 refine (drawLinesRun_c _ xs _ h hs hl hcap).mono ?_;rintro e1 w1 ⟨t,rfl,hx1,hT,ht⟩
 have hV1:=hV.ext hx1
 clear hs hl hcap h hV
 go_wp2_with fail
 refine (implRun_c t _ hV1 (by omega)).mono ?_;rintro e2 w2 ⟨rfl,hx2⟩
 have hV2:=hV1.ext hx2
 have X2:=ext_trans hx1 hx2
 clear hx1 hx2 hV1
 go_wp2_with fail
 refine (specLinesRun_c t (by omega) _).mono ?_;rintro e3 w3 ⟨rfl,hx3⟩
 have hV3:=hV2.ext hx3
 have X3:=ext_trans X2 hx3
 clear hx3 X2 hV2
 generalize linesRun t = A
 go_wp2_with fail
 go_loopw [5] (fun x wr=>∃ y : Str,x = strV y ∧ y.length ≤ 2100 ∧ Ext w wr ∧ Hid (VarsAt wr)) (fun x _=>3000 - strLen x)
 case atStart=>exact ⟨t,rfl,by omega,X3,Lib.hid hV3⟩
 case round =>
  clear hV3 X3
  obtain ⟨y,rfl,hyl,hX,hV⟩:=hrel
  by_cases h6 : y.length ≤ 600
  ·have h6' : (y.length : Int) ≤ 600:=by omega
   have ha:=str_add (P:=Tryz.prog) y [110,111,116,104,105,110,103,32,97,116,32,97,108,108,10] (by simp;omega)
   have hml : 3000 - strLen (strV (y ++ [110,111,116,104,105,110,103,32,97,116,32,97,108,108,10])) < 3000 - strLen (strV y):=by rw [strLen_eq,strLen_eq,List.length_append];simp;omega
   go_wp2_with fail
   go_roundw
   case rel=>exact ⟨_,rfl,by simp;omega,hX,hV⟩
   case measure=>exact hml
  ·have h6' : ¬ (y.length : Int) ≤ 600:=by omega
   have hi5:=fun w hv=>implRun_c y w hv (by omega)
   rw [show linesRun y = wLong by unfold linesRun;rw [if_pos (by omega)]] at hi5
   have HI5:=Lib.hid hi5;clear hi5
   have hv:=hV.out
   go_wp2_with fail
   refine (HI1.out _ hv).mono ?_;rintro e4 w4 ⟨rfl,hx4⟩
   have hV4:=hv.ext hx4
   have X4:=ext_trans hX hx4
   go_wp2_with fail
   refine (HI2.out _ hV4).mono ?_;rintro e5 w5 ⟨rfl,hx5⟩
   have hV5:=hV4.ext hx5
   have X5:=ext_trans X4 hx5
   go_wp2_with fail
   refine (HI3.out _ hV5).mono ?_;rintro e6 w6 ⟨rfl,hx6⟩
   have hV6:=hV5.ext hx6
   have X6:=ext_trans X5 hx6
   go_wp2_with fail
   refine (HI5.out _ hV6).mono ?_;rintro e7 w7 ⟨rfl,hx7⟩
   have hV7:=hV6.ext hx7
   have X7:=ext_trans X6 hx7
   go_wp2_with fail
   refine (HI4.out _ hV7).mono ?_;rintro e8 w8 ⟨rfl,hx8⟩
   have X8:=ext_trans X7 hx8
   go_wp2_with fail
   go_ret
   exact ⟨rfl,X8⟩
end Go.Bu