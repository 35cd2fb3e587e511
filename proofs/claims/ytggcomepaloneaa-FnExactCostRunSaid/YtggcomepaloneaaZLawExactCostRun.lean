/- The law FnExactCostRun holds of every input. -/
import Derived.Test.YtggcomepaloneaaZ9
import Derived.Test.YtggcomepaloneaaZ6
import Derived.Test.YtggcomepaloneaaZ1
set_option linter.unusedVariables false
set_option linter.unusedSimpArgs false
namespace Go.Bu
open Go Go.RowKit Go.Plan Go.Proofs

theorem wfInt {x : Int} (h : (Lit.int .i64 x).wf = true) : -9223372036854775808 ≤ x ∧ x ≤ 9223372036854775807 := by
  have h2 : IntKind.i64.min = -9223372036854775808 := by decide
  simp [Lit.wf, h2] at h; omega
theorem intAt {P : Program} {H : Type} {enc : TypeId × Value → H} {w : World} {spare : Nat → Bool} {held : Bool} {t : TypeId} {fs : Array Field} {fuel : Nat} {cs : List Value} {x : DataW H × List MemPlace}
    (ht : P.underlying t = some (.struct fs)) (h : DataW.trod enc P w 0 spare held fuel t cs = some x) (i : Nat) {ft off : Nat} (hi : (fs[i]?).map (fun f => (f.type, f.offset)) = some (ft, off)) (hc : P.cellsOf ft = 1) (hu : P.underlying ft = some (.int .i64)) :
    ∃ n : Int, (cs.drop off).take 1 = [.int .i64 n] ∧ (Lit.int .i64 n).wf = true := by
  obtain ⟨m, y, hy⟩ := field_at ht h i hi hc
  obtain ⟨n, hn, _, hw⟩ := DataW.trod_int hu hy
  exact ⟨n, hn, hw⟩
theorem boolAt {P : Program} {H : Type} {enc : TypeId × Value → H} {w : World} {spare : Nat → Bool} {held : Bool} {t : TypeId} {fs : Array Field} {fuel : Nat} {cs : List Value} {x : DataW H × List MemPlace}
    (ht : P.underlying t = some (.struct fs)) (h : DataW.trod enc P w 0 spare held fuel t cs = some x) (i : Nat) {ft off : Nat} (hi : (fs[i]?).map (fun f => (f.type, f.offset)) = some (ft, off)) (hc : P.cellsOf ft = 1) (hu : P.underlying ft = some .bool) :
    ∃ b : Bool, (cs.drop off).take 1 = [.bool b] := by
  obtain ⟨m, y, hy⟩ := field_at ht h i hi hc
  obtain ⟨n, hn, _⟩ := DataW.trod_bool hu hy
  exact ⟨n, hn⟩

theorem opens_event : Opens Try.prog 57 (plain fun e : { e : Event // -9223372036854775808 ≤ e.c ∧ e.c ≤ 9223372036854775807 } => eventC e.1) := by
  intro H enc w spare held fuel cs x h
  have hl := len_at Try.underlying57 h (n := 5) (by kernel_rfl)
  match cs, hl with
  | [c0, c1, c2, c3, c4], _ =>
    obtain ⟨a, ha, _⟩ := intAt Try.underlying57 h 0 rfl cellsInt Try.underlying3
    obtain ⟨b, hb, _⟩ := intAt Try.underlying57 h 1 rfl cellsInt Try.underlying3
    obtain ⟨c, hc, _⟩ := intAt Try.underlying57 h 2 rfl cellsInt Try.underlying3
    obtain ⟨e, he, hw⟩ := intAt Try.underlying57 h 3 rfl cellsInt Try.underlying3
    obtain ⟨t, ht⟩ := boolAt Try.underlying57 h 4 rfl (by kernel_rfl) Try.underlying4
    simp at ha hb hc he ht
    subst ha hb hc he ht
    exact ⟨⟨⟨a, b, c, e, t⟩, wfInt hw⟩, rfl⟩

set_option maxRecDepth 100000 in
theorem is_events {H : Type} {enc : TypeId × Value → H} {w : World} {r : Reach} {base : Nat} {v : Value} {d : DataW H} {ps : List MemPlace} (hv : Value.okWide Try.prog w r base 33 v) (h : DataW.Trod enc Try.prog w 0 (fun _ => true) true 33 v d ps) :
    ∃ xs : List Event, (Events (Old w) w v xs ∧ ∀ e ∈ xs, -9223372036854775808 ≤ e.c ∧ e.c ≤ 9223372036854775807) ∧ xs.length ≤ 9223372036854775807 ∧ ∀ a n c, v = .slice a n c → n ≤ c := by
  obtain ⟨a, len, cap, rfl⟩ := WideShapes.okWide_slice Try.underlying33 hv
  obtain ⟨fuel, hf⟩ := h
  obtain ⟨xs, ⟨a', cap', hv', hx⟩, hl, hc⟩ := open_sl (n := 5) Try.underlying33 (by kernel_rfl) (by omega) opens_event hf
  refine ⟨xs.map (·.1), ⟨⟨a', cap', by simpa using hv', fun i x hi => ?_⟩, fun x hx => ?_⟩, by simpa using hl, hc⟩
  · rw [List.getElem?_map] at hi
    obtain ⟨y, hy, rfl⟩ := Option.map_eq_some_iff.1 hi
    exact hx i y hy
  · obtain ⟨y, _, rfl⟩ := List.mem_map.1 hx
    exact y.2

theorem szEventS_c (v : Value) (xs : List Event) (b : Int) (w : World) (hp : Events (Old w) w v xs) (hl : xs.length ≤ 9223372036854775807) (hb : 0 ≤ b) (hb2 : b ≤ 1048576) :
    Calls Try.prog 13 #[v, .int .i64 b] w (fun e w' => ∃ r : Int, e = .returned (.int .i64 r) ∧ w = w' ∧ ((xs.length ≤ b ∧ r = b - xs.length) ∨ (b < xs.length ∧ r = -1))) := by
  obtain ⟨a, cap, rfl⟩ := hp.form
  go_enter Try.func13, Try.ntmps13
  go_wp2
  · go_ret; exact ⟨-1, rfl, rfl, .inr ⟨by omega, rfl⟩⟩
  · go_ret; exact ⟨_, rfl, rfl, .inl ⟨by omega, rfl⟩⟩

theorem eventEq_refl (e : Event) : eventEq e e = true := by simp [eventEq]

set_option maxHeartbeats 1000000 in
theorem exactCostRun (v : Value) (xs : List Event) (w : World) (hpe : Events (Old w) w v xs ∧ ∀ e ∈ xs, -9223372036854775808 ≤ e.c ∧ e.c ≤ 9223372036854775807) (hl : xs.length ≤ 9223372036854775807) : Calls Try.prog 6 #[v] w (Ret w (.bool true)) := by
  obtain ⟨hp, hb⟩ := hpe
  have hS : listEq eventEq xs xs = true := listEq_refl' eventEq_refl xs
  go_enter Try.func6, Try.ntmps6
  go_wp2_with fail
  refine (szEventS_c v xs _ w hp hl (by omega) (by omega)).mono ?_; rintro e0 w0 ⟨r, rfl, rfl, hr⟩
  rcases hr with ⟨hn, rfl⟩ | ⟨hn, rfl⟩
  · have hn' : xs.length ≤ 1048576 := by omega
    obtain ⟨C, hC⟩ : ∃ C : Cost, (if xs.length ≤ 60 then runCost xs else cost0) = C := ⟨_, rfl⟩
    obtain ⟨B, hB⟩ : ∃ B : Bool, decide (xs.length ≤ 60) = B := ⟨_, rfl⟩
    have hE : costEq C C = true := by simp [costEq]
    have hSP := fun (u : Value) (w' : World) (h : Events (Old w') w' u xs) => specCostRun_c u xs w' h hb hn'
    have hIP := fun (u : Value) (w' : World) (h : Events (Old w') w' u xs) => implCostRun_c u xs w' h hb hn'
    rw [hC, hB] at hSP hIP
    clear hC hB
    have HS := Lib.hid hSP
    have HI := Lib.hid hIP
    have HL := Lib.hid hS
    have HEC := Lib.hid hE
    clear hSP hIP hS hE
    go_wp2_with fail
    refine (toEventS_c v xs w hp hn').mono ?_; rintro e1 w1 ⟨v1, rfl, hX1, hO1⟩
    go_wp2_with fail
    refine (HS.out v1 w1 hO1.old).mono ?_; rintro e2 w2 ⟨rfl, hx2⟩
    have hX2 : Ext w w2 := ext_trans hX1 hx2
    go_wp2_with fail
    refine (toEventS_c v xs _ (hp.ext (ext_alloc hX2 _)) hn').mono ?_; rintro e3 w3 ⟨v3, rfl, hx3, hO3⟩
    obtain ⟨hc3, hf3, hz3, hX3⟩ := after1 hx3
    have hX3' : Ext w w3 := ext_trans hX2 hX3
    go_wp2_with fail
    refine (HI.out v3 w3 hO3.old).mono ?_; rintro e4 w4 ⟨rfl, hx4⟩
    obtain ⟨hc4, hf4⟩ := bcell hx4
    have hX4 : Ext w w4 := ext_trans hX3' hx4
    have hz4 : w2.heap.size < w4.heap.size := by have := hx4.size; omega
    go_wp2_with fail
    refine (eqCost_c C C _).mono ?_; rintro e5 w5 ⟨rfl, hx5⟩
    rw [HEC.out]
    have hX5 : Ext w w5 := ext_trans (ext_alloc hX4 _) hx5
    have hX5' : Ext w3 w5 := ext_trans (ext_alloc hx4 _) hx5
    have hBB : (B != B) = false := by simp
    go_wp2_with fail
    refine (toEventS_c v xs _ (hp.ext hX5) hn').mono ?_; rintro e6 w6 ⟨v6, rfl, hx6, hO6⟩
    go_wp2_with fail
    refine (eqEventS_c v3 v6 xs xs _ (hO3.ext (ext_trans hX5' hx6)).old hO6.old (.inl hn')).mono ?_; rintro e7 w7 ⟨rfl, hx7⟩
    rw [HL.out]
    go_wp2_with fail
    go_ret
    exact ⟨rfl, ext_trans (ext_trans hX5 hx6) hx7⟩
  · go_wp2
    go_ret
    exact ⟨rfl, ext_refl _⟩
end Go.Bu
