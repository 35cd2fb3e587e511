/- The program's iterator over the pages of a flash: what it hands to a loop's body. -/
import Derived.Test.YtcainddboblpbaaKit
import Derived.Test.YtcainddboblpbaaPlanIn
import Derived.RangeFuncNested
import Derived.RangeFuncBound
import Derived.RangeFuncCalls
import Derived.RangeFuncLeaves
import Derived.Shelf.Abstract
import Derived.Shelf.RegionOpen
import Derived.WalkKit
import Derived.OwnWalkIn
import Derived.TacticsInMore
import Derived.LoopNIn
import Derived.LoopIn
set_option linter.unusedVariables false
set_option linter.unusedSimpArgs false
namespace Go.Bu
open Go Go.RowKit Go.Plan Go.Proofs Go.Shelf
attribute [local go_sem] Oper.semAt_some

/-- a page, and where it lies -/
abbrev Spot := Nat × Nat × Page
def page0 : Page := ⟨0, ⟨0, 0, 0, 0⟩⟩
def spB (i : Nat) (ps : List Page) (k : Nat) : List Spot := (List.range k).map fun j => (i, j, ps.getD j page0)
def spF (f : List Block) (i : Nat) : List Spot := (List.range i).flatMap fun a => spB a ((f[a]?).getD ⟨[], 0⟩).pages ((f[a]?).getD ⟨[], 0⟩).pages.length
theorem spB_succ (i : Nat) (ps : List Page) (k : Nat) (h : k < ps.length) : spB i ps (k + 1) = spB i ps k ++ [(i, k, ps[k])] := by
  unfold spB; rw [List.range_succ, List.map_append]; simp [List.getElem?_eq_getElem h]
theorem spF_succ (f : List Block) (i : Nat) (h : i < f.length) : spF f (i + 1) = spF f i ++ spB i f[i].pages f[i].pages.length := by
  unfold spF; rw [List.range_succ, List.flatMap_append]; simp [List.getElem?_eq_getElem h]
theorem spF_len_succ (f : List Block) (i : Nat) (h : i < f.length) : (spF f (i + 1)).length = (spF f i).length + f[i].pages.length := by rw [spF_succ f i h, List.length_append]; simp [spB]
theorem spF_le (f : List Block) {i j : Nat} (h : i ≤ j) (hj : j ≤ f.length) : (spF f i).length ≤ (spF f j).length := by
  induction j with
  | zero => obtain rfl : i = 0 := by omega
            exact Nat.le_refl _
  | succ j ih =>
    by_cases hij : i = j + 1
    · subst hij; exact Nat.le_refl _
    · have := ih (by omega) (by omega)
      rw [spF_len_succ f j (by omega)]; omega
def encS (x : Spot) : Array Value := #[.agg #[.int .i64 x.1, .int .i64 x.2.1], pageA x.2.2]

theorem grownBy_ext {w w' : World} (h : Ext w w') : w.grownBy w' none := ⟨h.os, h.tape, h.output, h.size, fun k hk _ => h.block k hk⟩

theorem eachPage_c (a : Option Addr) (n cap : Nat) (w : World) : Calls Try.prog 75 #[.slice a n cap] w fun e w' => e = .returned (.func (.func 97) #[] #[.pointer (some ⟨w.heap.size, 0, none⟩)]) ∧ w' = w.alloc (.cells #[.slice a n cap] 30) := by
  go_enter Try.func75, Try.ntmps75
  go_wp2
  go_ret
  exact ⟨rfl, rfl⟩

/-- it lies in f -/
def InF (f : List Block) (x : Spot) : Prop := ∃ b, f[x.1]? = some b ∧ b.pages[x.2.1]? = some x.2.2
abbrev SpotIn (f : List Block) := { x : Spot // InF f x }
/-- the blocks of D lie as they lay -/
def KpD (D : Nat → Prop) (W W' : World) : Prop := W.heap.size ≤ W'.heap.size ∧ Same D W W'
theorem KpD.trans {D : Nat → Prop} {a b c : World} (h : KpD D a b) (k : KpD D b c) : KpD D a c := ⟨Nat.le_trans h.1 k.1, fun i hi => (k.2 i hi).trans (h.2 i hi)⟩
theorem KpD.of_below {D : Nat → Prop} {n : Nat} {a b : World} (h : Below n a b) (hD : ∀ i, D i → i < n) : KpD D a b := ⟨h.size, fun i hi => h.block i (hD i hi)⟩
theorem KpD.of_chg {D : Nat → Prop} {L : List Nat} {a b : World} (h : Chg L a b) (hD : ∀ i, D i → i < a.heap.size ∧ i ∉ L) : KpD D a b := ⟨h.size, fun i hi => h.block i (hD i hi).1 (hD i hi).2⟩
theorem KpD.put {D : Nat → Prop} {w : World} (hD : ∀ i, D i → i < w.heap.size) (W : World) (l : Nat) (o o' : Obj) (hl : w.heap.size ≤ l) : KpD D W (W.putObj l o') :=
  ⟨by simp, fun i hi => World.putObj_heap_other (fun e => by have := hD i hi; omega)⟩

set_option maxRecDepth 20000 in
set_option maxHeartbeats 2000000 in
theorem each_stops (n : Nat) (hn : 1 ≤ n) (D : Nat → Prop) (B : Nat) (v : Value) (f : List Block) (w : World) (hB : w.cell? ⟨B, 0, none⟩ = some v) (hDB : D B) (hD : ∀ i, D i → i < w.heap.size) (hf : Flash D w v f) (hl : f.length ≤ 1048576) (hp : ∀ b ∈ f, b.pages.length ≤ 1048576) :
    SeqStopsK Fence.wide n Try.prog 97 #[.pointer (some ⟨B, 0, none⟩)] (fun x : SpotIn f => encS x.1) (KpD D) (fun xs => xs.map (·.1) = spF f f.length) (fun _ => True) (spF f f.length).length w := by
  intro l J Jx W hW hJ hJx hY h0
  have HP := Lib.hid hp
  have HY := Lib.hid hY
  have HJ := Lib.hid hJ
  have h00 : ∃ pre : List (SpotIn f), pre.map (·.1) = spF f 0 ∧ J pre W := ⟨[], rfl, h0⟩
  have H0 := Lib.hid h00
  clear hp hY hJ hJx h0 h00
  have hX0 := KpD.of_below hW hD
  have hBW : W.cell? ⟨B, 0, none⟩ = some v := by rw [cell_same hX0.2 hDB]; exact hB
  have HX0 := Lib.hid hX0
  clear hX0 hW
  obtain ⟨a, cap, rfl⟩ := hf.form
  refine callsIn_of_wp Try.func97 rfl trivial ?_ rfl
  simp only [Try.ntmps97, List.size_toArray, List.length_cons, List.length_nil, Nat.reduceAdd, Nat.reduceSub, Array.replicate_succ, Array.replicate_zero, List.push_toArray, List.append_toArray, List.nil_append, List.cons_append]
  gi_wp2
  gi_loopw [9] (fun y wr => ∃ i : Nat, i ≤ f.length ∧ y = .int .i64 i ∧ Hid (∃ pre : List (SpotIn f), pre.map (·.1) = spF f i ∧ J pre wr) ∧ Hid (KpD D w wr)) (fun y _ => f.length - (intOf y).toNat)
  case atStart => exact ⟨0, by omega, rfl, H0, HX0⟩
  case round =>
    clear H0 HX0 hBW
    obtain ⟨i, hi, rfl, HJi, HX⟩ := hrel
    by_cases hlt : i < f.length
    · obtain ⟨b, o, pv, rfl, hb, hpp, e0, e1⟩ := Flash.at2 (Sl.same blockE_kept hf HX.out.2 (fun _ h => h)) hlt
      obtain ⟨pa, pcap, rfl⟩ := hpp.form
      have hpl := HP.out f[i] (List.getElem_mem _)
      have hJB : ∃ pre : List (SpotIn f), pre.map (·.1) = spF f i ++ spB i f[i].pages 0 ∧ J pre (wr.alloc (.cells #[.slice pa f[i].pages.length pcap, .int .i64 f[i].worn] 106)) := by
        obtain ⟨pre, h1, h2⟩ := HJi.out
        exact ⟨pre, by rw [show spB i f[i].pages 0 = [] from rfl, List.append_nil]; exact h1, HJ.out _ _ _ none h2 (World.grownBy_alloc _ _ none) (fun r e => by cases e)⟩
      have HJB := Lib.hid hJB
      have hX2 : KpD D w (wr.alloc (.cells #[.slice pa f[i].pages.length pcap, .int .i64 f[i].worn] 106)) := HX.out.trans ⟨by simp, fun j hj => alloc_get_old (Nat.lt_of_lt_of_le (hD j hj) HX.out.1)⟩
      have HX2 := Lib.hid hX2
      have HPP := Lib.hid (Sl.same (plain_kept _) hpp (D' := D) (w' := wr) (fun _ _ => rfl) (fun _ h => h))
      have HS := Lib.hid HX.out.2
      clear hJB HJi HX hX2 hpp
      gi_wp2
      gi_loopw [17] (fun y wr2 => ∃ k : Nat, k ≤ f[i].pages.length ∧ y = .int .i64 k ∧ Hid (∃ pre : List (SpotIn f), pre.map (·.1) = spF f i ++ spB i f[i].pages k ∧ J pre wr2) ∧ Hid (KpD D w wr2)) (fun y _ => f[i].pages.length - (intOf y).toNat)
      case atStart => exact ⟨0, by omega, rfl, HJB, HX2⟩
      case round =>
        clear HJB HX2 e0 e1
        obtain ⟨k, hk, rfl, HJk, HX⟩ := hrel
        by_cases hkl : k < f[i].pages.length
        · obtain ⟨b2, o2, rfl, hb2, q0, q1, q2, q3, q4⟩ := Pages.at5 (Sl.same (plain_kept _) HPP.out (D' := D) (w' := wr) (fun j hj => (HX.out.2 j hj).trans (HS.out j hj).symm) (fun _ h => h)) hkl
          have hlen : (spF f i ++ spB i f[i].pages k).length < (spF f f.length).length := by
            have h1 := spF_len_succ f i hlt
            have h2 := spF_le f (i := i + 1) (j := f.length) (by omega) (Nat.le_refl _)
            rw [List.length_append]; simp only [spB, List.length_map, List.length_range]; omega
          obtain ⟨pre, hpre, hJp⟩ := HJk.out
          have hJP : J pre (wr.alloc (.cells (pageC f[i].pages[k]).toArray 99)) := HJ.out _ _ _ none hJp (World.grownBy_alloc _ _ none) (fun r e => by cases e)
          obtain ⟨fn, tmps, assign, body, hy, hR⟩ := HY.out pre ⟨(i, k, f[i].pages[k]), ⟨f[i], List.getElem?_eq_getElem hlt, List.getElem?_eq_getElem hkl⟩⟩ _ hJP (by rw [← List.length_map (·.1), hpre]; exact hlen)
          have HR := Lib.hid hR
          have HPRE : Hid ((pre ++ [⟨(i, k, f[i].pages[k]), ⟨f[i], List.getElem?_eq_getElem hlt, List.getElem?_eq_getElem hkl⟩⟩] : List (SpotIn f)).map (·.1) = spF f i ++ spB i f[i].pages (k + 1)) := Lib.hid (by rw [List.map_append, hpre, spB_succ i _ k hkl]; simp)
          have hXP : KpD D w (wr.alloc (.cells (pageC f[i].pages[k]).toArray 99)) := HX.out.trans ⟨by simp, fun j hj => alloc_get_old (Nat.lt_of_lt_of_le (hD j hj) HX.out.1)⟩
          have HXP := Lib.hid hXP
          clear hR hlen hJP hJp HJk hpre hXP HX
          dsimp only [encS] at hy
          gi_wp2
          refine HR.out.mono ?_
          rintro e W3 (⟨rfl, hJ3, hk3⟩ | ⟨rfl, hJx3⟩)
          · have HX3 := Lib.hid (HXP.out.trans hk3)
            have HJ3 : Hid (∃ pre : List (SpotIn f), pre.map (·.1) = spF f i ++ spB i f[i].pages (k + 1) ∧ J pre W3) := Lib.hid ⟨_, HPRE.out, hJ3⟩
            clear HR hy HXP hJ3 hk3 HPRE
            gi_wp2
            exact ⟨⟨k + 1, by omega, by go_num, HJ3, HX3⟩, by simp [intOf]; omega⟩
          · clear HR hy HXP HPRE
            gi_wp2
            refine bodyPost_ret (results_none rfl _ _ _) rfl ?_
            exact ⟨⟨_, rfl⟩, .inr ⟨_, trivial, hJx3⟩⟩
        · obtain rfl : k = f[i].pages.length := by omega
          rw [← spF_succ f i hlt] at HJk
          gi_wp2
          exact ⟨⟨i + 1, by omega, by go_num, HJk, HX⟩, by simp [intOf]; omega⟩
    · obtain rfl : i = f.length := by omega
      obtain ⟨pre, h1, h2⟩ := HJi.out
      gi_wp2
      go_end0
      exact ⟨⟨_, rfl⟩, .inl ⟨pre, h1, h2⟩⟩
end Go.Bu
