/- The console's line: obey, and what is recovered. -/import Derived.Test.YtoekfnjeceijaaaGreatDoorZ11
import Derived.Recover
set_option maxHeartbeats 2000000
set_option linter.unusedVariables false
set_option linter.unusedSimpArgs false
namespace Go.Bu
open Go Go.RowKit Go.Plan Go.Proofs
theorem ta_nil (w : World) : (Instr.typeAssert .nilIface 20 70 true).run Tryz.prog w = .ok (.tuple #[.agg #[.string ⟨#[]⟩],.bool false]) w:=by kernel_rfl
theorem ta_it (x : ByteArray) (w : World) : (Instr.typeAssert (.iface 70 (.agg #[.string x])) 20 70 true).run Tryz.prog w = .ok (.tuple #[.agg #[.string x],.bool true]) w:=by kernel_rfl
set_option maxRecDepth 20000 in
set_option maxHeartbeats 2000000 in
theorem catch_idle (B : Nat) (w : World) :
  CallsD Tryz.prog 40 #[.pointer (some ⟨B,0,none⟩)] .returning w fun e u' w'=>e = .returned (.tuple #[]) ∧ u' = .returning ∧ Ext w w':=by
 refine callsD_of_wpS Tryz.func40 rfl fun c₀ cs hu=>?_
 rw [Tryz.ntmps40]
 show Code.wpS _ _ _ { tmps:=#[.pointer (some ⟨B,0,none⟩),undef,undef,undef,undef,undef,undef,undef,undef,undef,undef,undef,undef],defers:=[] } _ _
 apply wpS_seq
 apply wpS_region
 simp [wpOpsS,go_sem,recoverD,hu,Exit.thenS,ta_nil]
 refine wpS_of_wp ?_
 go_wp2_with fail
 cases c₀
 simp_all [bodyPostS,results,Tryz.results40,go_sem]
 exact ext_alloc (ext_refl _) _
set_option maxRecDepth 20000 in
set_option maxHeartbeats 2000000 in
theorem catch_it (C : Nat) (s : Store) (bs : Str) (R : Option Nat) (B : Nat) (x : ByteArray) (w : World) (hB : w.cell? ⟨B,0,none⟩ = some (.pointer (some ⟨C,0,none⟩))) (h : ConS C w s bs R) (hb : bs.length ≤ 500000) :
  CallsD Tryz.prog 40 #[.pointer (some ⟨B,0,none⟩)] (.panicking [{ v:=.iface 70 (.agg #[.string x]),recovered:=false }]) w fun e u' w' =>
   e = .returned (.tuple #[]) ∧ u' = .panicking [{ v:=.iface 70 (.agg #[.string x]),recovered:=true }] ∧ ∃ R',Fr C R w R' w' ∧ ConS C w' s (bs ++ wWhat) R':=by
 obtain ⟨f,d,L,hK,hO,hL⟩:=h
 have hX : Ext w (w.alloc (.cells #[.string x] 70)):=ext_alloc (ext_refl _) _
 have hws:=fun w' (hx : Ext w w')=>writeString_c C f d bs wWhat R w' (hK.ext hx) (by have : wWhat.length = 5:=rfl;omega)
 have hB2:=cell_ext hX hB
 have HWS:=Lib.hid hws;have HO:=Lib.hid hO;have HL:=Lib.hid hL
 clear hK hws hO hL
 refine callsD_of_wpS Tryz.func40 rfl fun c₀ cs hu=>?_
 rw [Tryz.ntmps40]
 show Code.wpS _ _ _ { tmps:=#[.pointer (some ⟨B,0,none⟩),undef,undef,undef,undef,undef,undef,undef,undef,undef,undef,undef,undef],defers:=[] } _ _
 apply wpS_seq
 apply wpS_region
 simp [wpOpsS,go_sem,recoverD,hu,Exit.thenS,ta_it]
 refine wpS_of_wp ?_
 go_wp2_with fail
 refine (HWS.out _ hX).mono ?_;rintro e5 w5 ⟨rfl,R5,hF5,hC5⟩
 go_wp2_with fail
 obtain ⟨hO5,hL5⟩:=OwnStore.fr (HO.out.ext hX) HL.out hF5
 have hfin : ∃ R',Fr C R w R' w5 ∧ ConS C w5 s (bs ++ wWhat) R':=⟨R5,(Fr.of_ext hX).trans hF5,f,d,L,hC5,hO5,hL5⟩
 refine ⟨rfl,_,rfl,.tuple #[],by simp [results,Tryz.results40,go_sem],rfl,rfl,hfin⟩
set_option maxRecDepth 20000 in
set_option maxHeartbeats 2000000 in
theorem line_c (C : Nat) (s : Store) (bs l : Str) (R : Option Nat) (w : World) (m : Int) (h : ConS C w s bs R) (hok : storeOkB s = true) (hw : ∀ b ∈ s.flash,b.worn ≤ 75) (hm : w.cell? ⟨1,0,none⟩ = some (.int .i64 m)) (hl : l.length ≤ 1000) (hb : bs.length ≤ 400000) :
  Calls Tryz.prog 25 #[.pointer (some ⟨C,0,none⟩),strV l] w (BRetS C R w (lineDo s l).1 (bs ++ (lineDo s l).2)):=by
 have hX : Ext w (w.alloc (.cells #[.pointer (some ⟨C,0,none⟩)] 68)):=ext_alloc (ext_refl _) _
 have hob:=obey_c C s bs l R (w.alloc (.cells #[.pointer (some ⟨C,0,none⟩)] 68)) m (h.ext hX) hok hw (cell_ext hX hm) hl hb
 have G1:=hg_new (w:=w) (b:=w.heap.size) (x:=.cells #[.pointer (some ⟨C,0,none⟩)] 68) rfl
 have hCl : C ≠ w.heap.size:=by obtain ⟨f,d,L,hK,_⟩:=h;have:=hK.lt;omega
 have hRl : R ≠ some w.heap.size:=fun e=>by obtain ⟨f,d,L,hK,_⟩:=h;have:=hK.row _ e;omega
 have hmf : ∀ (fn : Fn) (first cap : Array Value) (w : World),(Instr.makeFunc fn first cap).run Tryz.prog w = .ok (.func fn first cap) w:=fun _ _ _ _=>rfl
 have HOB:=Lib.hid hob
 clear hob h hok hw hm hl
 go_enter_defers Tryz.func25,Tryz.ntmps25
 go_wp2_with fail
 refine HOB.out.mono ?_
 rintro e w2 (⟨rfl,R2,hF2,hS2⟩ | ⟨hld,⟨x,rfl⟩,R2,hF2,hS2⟩)
 ·have hfin : BRetS C R w (lineDo s l).1 (bs ++ (lineDo s l).2) (.returned (.tuple #[])) w2 → BRetS C R w (lineDo s l).1 (bs ++ (lineDo s l).2) (.returned (.tuple #[])) w2:=id
  have hF:=(Fr.of_ext hX (C:=C) (R:=R)).trans hF2
  go_wp2_with fail
  refine leaves_cons (f:=40) (args:=#[.pointer (some ⟨w.heap.size,0,none⟩)]) (by simp) (by simp [go_sem]) ?_
  refine (catch_idle _ _).mono ?_
  rintro e u' w'' ⟨rfl,rfl,hx⟩
  simp [Leaves,settle,results,Tryz.results25,go_sem]
  exact ⟨rfl,R2,hF.trans (Fr.of_ext hx),hS2.ext hx⟩
 ·rw [hld]
  have G2:=hF2.keep G1 (Ne.symm hCl) hRl
  have hF:=(Fr.of_ext hX (C:=C) (R:=R)).trans hF2
  dsimp only
  refine leaves_cons (f:=40) (args:=#[.pointer (some ⟨w.heap.size,0,none⟩)]) (by simp) (by simp [go_sem]) ?_
  refine (catch_it C s bs R2 _ x w2 (by rw [cell_block G2];rfl) hS2 (by omega)).mono ?_
  rintro e u' w'' ⟨rfl,rfl,R3,hF3,hS3⟩
  simp [Leaves,settle,results,Tryz.results25,go_sem]
  exact ⟨rfl,R3,hF.trans hF3,hS3⟩
end Go.Bu