/- The law FnExactPairNew holds. -/
import Derived.Test.YtcgedfahgldkoaaNew3
import Derived.Test.YtcgedfahgldkoaaMarks2
import Derived.Test.YtcgedfahgldkoaaEq2
set_option linter.unusedVariables false
set_option linter.unusedSimpArgs false
namespace Go.Bu
open Go Go.RowKit Go.Plan Go.Proofs

def newPair : Pair := ⟨newStore, newStore, 0⟩
theorem newShape : Shape newStore := ⟨rfl, by decide, rfl⟩
theorem Shape.fits {s : Store} (hs : Shape s) (f : List Block) : Fits s.flash f := ⟨.inl (by rw [hs.flash]; omega), fun i h _ => .inl (by rw [hs.pages _ (List.getElem_mem h)]; omega)⟩
theorem Shape.fitsI {s : Store} (hs : Shape s) (d : List Int) : FitsI s.disk d := .inl (by rw [hs.disk]; omega)

set_option maxHeartbeats 1000000 in
theorem exactPairNew (w : World) : Calls Try.prog 6 #[] w (Ret w (.bool true)) := by
  have hE : pairEq newPair newPair = true := by decide
  go_enter Try.func6, Try.ntmps6
  go_wp2_with fail
  refine (specPairNew_c _).mono ?_; rintro e1 w1 ⟨f, d, g, e, L, K, rfl, X1, A1, B1, hn1, hb1⟩
  obtain ⟨a1, m1, c1, a2, m2, c2, rfl, rfl⟩ := A1.forms
  obtain ⟨a3, m3, c3, a4, m4, c4, rfl, rfl⟩ := B1.forms
  go_wp2_with fail
  refine (implPairNew_c _).mono ?_; rintro e2 w2 ⟨f', d', g', e', L2, K2, rfl, hx2, A2, B2, hn2, hb2⟩
  obtain ⟨b1, p1, q1, b2, p2, q2, rfl, rfl⟩ := A2.forms
  obtain ⟨b3, p3, q3, b4, p4, q4, rfl, rfl⟩ := B2.forms
  have G1 := keep_ext hx2 (alloc_get_new rfl)
  have X2 : Ext w w2 := ext_trans X1 (ext_trans (ext_alloc (ext_refl _) _) hx2)
  have hA1 := A1.lt; have hB1 := B1.lt
  have hA2 := A2.lt; have hB2 := B2.lt
  have E1 : Ext w1 w2 := ext_trans (ext_alloc (ext_refl _) _) hx2
  replace A1 := A1.ext E1; replace B1 := B1.ext E1
  have z1 := heap_lt G1
  simp at hb2
  clear hx2
  obtain ⟨i0, i1, i2, i3, i4, ifz⟩ := cells5 G1
  have HA1 := Lib.hid A1; have HB1 := Lib.hid B1; have HA2 := Lib.hid A2; have HB2 := Lib.hid B2
  clear A1 B1 A2 B2
  go_wp2_with fail
  refine (eqPair_c _ _ _ _ _ _ _ _ newPair newPair _ (HA2.out.ext (ext_alloc (ext_refl _) _)).flash (HA1.out.ext (ext_alloc (ext_refl _) _)).flash (HA2.out.ext (ext_alloc (ext_refl _) _)).disk (HA1.out.ext (ext_alloc (ext_refl _) _)).disk (newShape.fits _) (newShape.fitsI _)
    (HB2.out.ext (ext_alloc (ext_refl _) _)).flash (HB1.out.ext (ext_alloc (ext_refl _) _)).flash (HB2.out.ext (ext_alloc (ext_refl _) _)).disk (HB1.out.ext (ext_alloc (ext_refl _) _)).disk (newShape.fits _) (newShape.fitsI _)).mono ?_; rintro e3 w3 ⟨rfl, hx3⟩
  rw [hE]
  obtain ⟨hc3, hf3, hz3, X23⟩ := after1 hx3
  have G2 := keep_ext hx3 (alloc_get_new rfl)
  replace G1 := keep_ext X23 G1
  obtain ⟨k0, k1, k2, k3, k4, kf⟩ := cells5 G2
  have X3 : Ext w w3 := ext_trans X2 X23
  clear i0 i1 i2 i3 i4 ifz hx3 hc3 hf3
  go_wp2_with fail
  refine (markPair_c _ _ _ _ 0 newStore newStore L2 K2 1 _ (HA2.out.ext X23) (HB2.out.ext X23) hn2 newShape newShape (by omega) (by omega)).mono ?_; rintro e4 w4 ⟨rfl, C4, s4, t4, A4, B4, M4, N4⟩
  have hn2w : w2.heap.size ∉ L2 ++ K2 := fun hm => by
    rcases List.mem_append.1 hm with h | h
    · have := hA2 _ h; omega
    · have := hB2 _ h; omega
  have hn1w : w1.heap.size ∉ L2 ++ K2 := fun hm => by have := hb2 _ (List.mem_append.1 hm); omega
  replace G1 := C4.keep G1 hn1w
  replace G2 := C4.keep G2 hn2w
  have X4 : Ext w w4 := C4.ext X3 fun b hm => by have := hb2 _ (List.mem_append.1 hm); have := X1.size; omega
  have A14 : OwnStore w4 (.slice a1 m1 c1) (.slice a2 m2 c2) newStore L := (HA1.out.ext X23).chg C4 fun b hm hm2 => by have := hA1 b hm; have := hb2 _ (List.mem_append.1 hm2); omega
  have B14 : OwnStore w4 (.slice a3 m3 c3) (.slice a4 m4 c4) newStore K := (HB1.out.ext X23).chg C4 fun b hm hm2 => by have := hB1 b hm; have := hb2 _ (List.mem_append.1 hm2); omega
  clear k0 k1 k2 k3 k4 kf
  obtain ⟨k0, k1, k2, k3, k4, kf⟩ := cells5 G2
  have HA := Lib.hid A4; have HB := Lib.hid B4; have HP := Lib.hid A14; have HQ := Lib.hid B14
  clear C4 A4 B4 A14 B14 HA1 HB1 HA2 HB2 X23
  go_wp2_with fail
  refine (heldPair_c _ _ _ _ 0 s4 t4 L2 K2 1 _ HA.out HB.out M4 N4 (by omega) (by omega)).mono ?_; rintro e5 w5 ⟨rfl, hx5⟩
  replace G1 := keep_ext hx5 G1
  replace G2 := keep_ext hx5 G2
  clear k0 k1 k2 k3 k4 kf
  obtain ⟨k0, k1, k2, k3, k4, kf⟩ := cells5 G2
  go_wp2_with fail
  refine (implPairNew_c _).mono ?_; rintro e6 w6 ⟨f6, d6, g6, e6, L6, K6, rfl, hx6, A6, B6, hn6, hb6⟩
  obtain ⟨b5, p5, q5, b6, p6, q6, rfl, rfl⟩ := A6.forms
  obtain ⟨b7, p7, q7, b8, p8, q8, rfl, rfl⟩ := B6.forms
  have X46 : Ext w4 w6 := ext_trans hx5 hx6
  have X6 : Ext w w6 := ext_trans X4 X46
  replace G1 := keep_ext hx6 G1
  replace G2 := keep_ext hx6 G2
  have z26 := heap_lt G2
  have z16 := heap_lt G1
  clear k0 k1 k2 k3 k4 kf
  obtain ⟨k0, k1, k2, k3, k4, kf⟩ := cells5 G2
  obtain ⟨i0, i1, i2, i3, i4, ifz⟩ := cells5 G1
  have HA6 := Lib.hid A6; have HB6 := Lib.hid B6
  clear A6 B6 hx5 hx6
  go_wp2_with fail
  refine (eqPair_c _ _ _ _ _ _ _ _ newPair newPair _ (HA6.out.ext (ext_alloc (ext_refl _) _)).flash ((HP.out.ext X46).ext (ext_alloc (ext_refl _) _)).flash (HA6.out.ext (ext_alloc (ext_refl _) _)).disk ((HP.out.ext X46).ext (ext_alloc (ext_refl _) _)).disk (newShape.fits _) (newShape.fitsI _)
    (HB6.out.ext (ext_alloc (ext_refl _) _)).flash ((HQ.out.ext X46).ext (ext_alloc (ext_refl _) _)).flash (HB6.out.ext (ext_alloc (ext_refl _) _)).disk ((HQ.out.ext X46).ext (ext_alloc (ext_refl _) _)).disk (newShape.fits _) (newShape.fitsI _)).mono ?_; rintro e7 w7 ⟨rfl, hx7⟩
  rw [hE]
  have X67 : Ext w6 w7 := ext_trans (ext_alloc (ext_refl _) _) hx7
  replace G2 := keep_ext X67 G2
  clear k0 k1 k2 k3 k4 kf i0 i1 i2 i3 i4 ifz
  obtain ⟨k0, k1, k2, k3, k4, kf⟩ := cells5 G2
  go_wp2_with fail
  refine (heldPair_c _ _ _ _ 0 s4 t4 L2 K2 1 _ (HA.out.ext (ext_trans X46 X67)) (HB.out.ext (ext_trans X46 X67)) M4 N4 (by omega) (by omega)).mono ?_; rintro e8 w8 ⟨rfl, hx8⟩
  go_wp2_with fail
  go_ret
  exact ⟨rfl, ext_trans X6 (ext_trans X67 hx8)⟩
end Go.Bu
