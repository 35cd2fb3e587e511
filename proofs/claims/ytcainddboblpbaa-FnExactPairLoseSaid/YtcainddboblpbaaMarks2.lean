/- The laws' marks of disks, stores and pairs. -/
import Derived.Test.YtcainddboblpbaaMarks
set_option linter.unusedVariables false
set_option linter.unusedSimpArgs false
namespace Go.Bu
open Go Go.RowKit Go.Plan Go.Proofs

set_option maxHeartbeats 1000000 in
theorem markIntS_c (v : Value) (ps : List Int) (b : Nat) (x : Int) (w : World) (h : OwnInts w v ps b) (hn : ps.length ≤ 1048576) (hx0 : 0 ≤ x) (hx1 : x ≤ 1152921504606846976) :
    Calls Try.prog 15 #[v, .int .i64 x] w (fun e w' => e = .returned (.int .i64 (x + ps.length)) ∧ Chg [b] w w' ∧ ∃ qs, OwnInts w' v qs b ∧ qs.length = ps.length ∧ ∀ i : Nat, i < ps.length → qs[i]? = some (x + i)) := by
  obtain ⟨T, o, cap, rfl, hA⟩ := h
  go_enter Try.func15, Try.ntmps15
  go_wp2
  go_loopw [1, 5] (fun y i wr => ∃ (k : Nat) (qs : List Int), k ≤ ps.length ∧ i = .int .i64 k ∧ y = .int .i64 (x + k) ∧ Chg [b] w wr ∧ OwnAt 1 intC T wr b o qs ∧ qs.length = ps.length ∧ ∀ i : Nat, i < k → qs[i]? = some (x + i)) (fun _ i _ => ps.length - (intOf i).toNat)
  case atStart => exact ⟨0, ps, Nat.zero_le _, rfl, by simp, Chg.refl _ _, hA, rfl, fun i hi => absurd hi (Nat.not_lt_zero _)⟩
  case round =>
    obtain ⟨k, qs, hk, rfl, rfl, hC, hO, hl, hq⟩ := hrel
    have HQ := Lib.hid hq; clear hq
    by_cases hlt : k < ps.length
    · have e0 := hO.one (k := k) (by omega)
      have ef := hO.frozen
      have hS := OwnAt.set (n := 1) (enc := intC) (fun _ => rfl) (by omega) hO (k := k) (by omega) (x + k)
      simp only [Nat.mul_one] at hS
      have HS := Lib.hid hS; clear hS
      go_wp2
      refine ⟨⟨k + 1, qs.set k (x + k), by omega, by go_num, congrArg (Value.int .i64) (by omega), hC.set (.inl (by simp)) _, HS.out, by rw [List.length_set]; exact hl, fun i hi => ?_⟩, by simp [intOf]; omega⟩
      by_cases hik : i = k
      · subst hik; rw [List.getElem?_set_self (by omega)]
      · rw [List.getElem?_set_ne (Ne.symm hik)]; exact HQ.out i (by omega)
    · obtain rfl : k = ps.length := by omega
      go_wp2
      go_ret
      exact ⟨rfl, hC, qs, ⟨T, o, cap, by rw [hl], hO⟩, hl, HQ.out⟩

set_option maxHeartbeats 1000000 in
theorem heldIntS_c (v : Value) (ps : List Int) (b : Nat) (x : Int) (w : World) (h : OwnInts w v ps b) (hn : ps.length ≤ 1048576) (hx0 : 0 ≤ x) (hx1 : x ≤ 1000000000) (hq : ∀ i : Nat, i < ps.length → ps[i]? = some (x + i)) :
    Calls Try.prog 16 #[v, .int .i64 x] w (Ret w (.int .i64 (x + ps.length))) := by
  obtain ⟨T, o, cap, rfl, hA⟩ := h
  have HQ := Lib.hid hq; clear hq
  go_enter Try.func16, Try.ntmps16
  go_wp2
  go_loop [1, 5] (fun y i => ∃ (k : Nat), k ≤ ps.length ∧ i = .int .i64 k ∧ y = .int .i64 (x + k)) (fun _ i => ps.length - (intOf i).toNat)
  case atStart => exact ⟨0, Nat.zero_le _, rfl, by simp⟩
  case round =>
    obtain ⟨k, hk, rfl, rfl⟩ := hrel
    by_cases hlt : k < ps.length
    · have e0 := hA.one (k := k) hlt
      have hp : ps[k] = x + k := by have := HQ.out k hlt; rw [List.getElem?_eq_getElem hlt] at this; exact Option.some.inj this
      rw [hp] at e0
      clear hp
      go_wp2
      refine ⟨⟨k + 1, by omega, by go_num, congrArg (Value.int .i64) (by omega)⟩, by simp [intOf]; omega⟩
    · obtain rfl : k = ps.length := by omega
      go_wp2
      go_ret
      exact ⟨rfl, ext_refl _⟩

/-- a store of four blocks of four pages and a disk of six -/
structure Shape4 (s : Store) : Prop where
  flash : s.flash.length = 4
  pages : ∀ b ∈ s.flash, b.pages.length = 4
  disk : s.disk.length = 6

structure Marked (s : Store) (x : Int) : Prop where
  len : s.flash.length = 4
  flash : ∀ i : Nat, i < 4 → s.flash[i]? = some (mkBlock (x + 21 * i))
  disk : s.disk.length = 6
  ints : ∀ i : Nat, i < 6 → s.disk[i]? = some (x + 84 + i)

theorem markStore_c (f d : Value) (s : Store) (L : List Nat) (x : Int) (w : World) (h : OwnStore w f d s L) (hnd : L.Nodup) (hs : Shape4 s) (hx0 : 0 ≤ x) (hx1 : x ≤ 100000) :
    Calls Try.prog 35 #[.agg #[f, d], .int .i64 x] w (fun e w' => e = .returned (.int .i64 (x + 90)) ∧ Chg L w w' ∧ ∃ t, OwnStore w' f d t L ∧ Marked t x) := by
  obtain ⟨B, bs, D, rfl, hF, hD⟩ := h
  have hlt := hF.lt
  have hDn : D ∉ B :: bs := by
    rw [List.nodup_append] at hnd
    exact fun hm => hnd.2.2 D hm D (by simp) rfl
  have hn1 : (B :: bs).Nodup := (List.nodup_append.1 hnd).1
  go_enter Try.func35, Try.ntmps35
  go_wp2_with fail
  refine (markBlockS_c f s.flash B bs x _ (hF.ext (ext_alloc (ext_refl _) _)) hn1 (by rw [hs.flash]; omega) hs.pages hx0 (by omega)).mono ?_; rintro e1 w1 ⟨rfl, hc1, gs, hO1, hl1, hq1⟩
  rw [hs.flash] at hl1 hq1 ⊢
  have G0 := hc1.keep (alloc_get_new rfl) (fun hm => absurd (hlt _ hm) (Nat.lt_irrefl _))
  have hD1 : OwnInts w1 d s.disk D := (hD.ext (ext_alloc (ext_refl _) _)).chg hc1 hDn
  have g0 : w1.cell? ⟨w.heap.size, 0, none⟩ = some f := by rw [cell_block G0]; rfl
  have g1 : w1.cell? ⟨w.heap.size, 1, none⟩ = some d := by rw [cell_block G0]; rfl
  have C1 : Chg (B :: bs ++ [D]) w w1 := ((Chg.refl _ w).alloc _).trans (hc1.mono fun b hb => List.mem_append_left _ hb)
  clear hc1 G0
  go_wp2_with fail
  refine (markIntS_c d s.disk D _ _ hD1 (by rw [hs.disk]; omega) (by omega) (by omega)).mono ?_; rintro e2 w2 ⟨rfl, hc2, ds, hO2, hl2, hq2⟩
  rw [hs.disk] at hl2 hq2 ⊢
  have hF2 := hO1.chg hc2 (fun b hb hm => hDn (by rw [List.mem_singleton] at hm; rw [← hm]; exact hb))
  go_wp2_with fail
  go_ret
  refine ⟨congrArg (fun z => Ending.returned (.int .i64 z)) (by omega), C1.trans (hc2.mono (by simp)), ⟨gs, ds⟩, ⟨B, bs, D, rfl, hF2, hO2⟩, hl1, hq1, hl2, fun i hi => ?_⟩
  rw [hq2 i hi]

theorem heldStore_c (f d : Value) (s : Store) (L : List Nat) (x : Int) (w : World) (h : OwnStore w f d s L) (hs : Marked s x) (hx0 : 0 ≤ x) (hx1 : x ≤ 100000) :
    Calls Try.prog 44 #[.agg #[f, d], .int .i64 x] w (Ret w (.int .i64 (x + 90))) := by
  obtain ⟨B, bs, D, rfl, hF, hD⟩ := h
  go_enter Try.func44, Try.ntmps44
  go_wp2_with fail
  refine (heldBlockS_c f s.flash B bs x _ (hF.ext (ext_alloc (ext_refl _) _)) (by rw [hs.len]; omega) hx0 (by omega) (by rw [hs.len]; exact hs.flash)).mono ?_; rintro e1 w1 ⟨rfl, hx1⟩
  rw [hs.len]
  obtain ⟨hc, hf, hz, hX⟩ := after1 hx1
  go_wp2_with fail
  refine (heldIntS_c d s.disk D _ _ (hD.ext hX) (by rw [hs.disk]; omega) (by omega) (by omega) (by rw [hs.disk]; intro i hi; rw [hs.ints i hi])).mono ?_; rintro e2 w2 ⟨rfl, hx2⟩
  rw [hs.disk]
  go_wp2_with fail
  go_ret
  exact ⟨congrArg (fun z => Ending.returned (.int .i64 z)) (by omega), ext_trans hX hx2⟩

theorem markPair_c (f d g e : Value) (n : Int) (s t : Store) (L K : List Nat) (x : Int) (w : World) (h : OwnStore w f d s L) (h2 : OwnStore w g e t K) (hnd : (L ++ K).Nodup) (hs : Shape4 s) (ht : Shape4 t) (hx0 : 0 ≤ x) (hx1 : x ≤ 10000) :
    Calls Try.prog 14 #[.agg #[f, d, g, e, .int .i64 n], .int .i64 x] w (fun r w' => r = .returned (.int .i64 (x + 180)) ∧ Chg (L ++ K) w w' ∧ ∃ s' t', OwnStore w' f d s' L ∧ OwnStore w' g e t' K ∧ Marked s' x ∧ Marked t' (x + 90)) := by
  have hlt := h.lt
  have hap : ∀ b ∈ K, b ∉ L := fun b hb hm => (List.nodup_append.1 hnd).2.2 b hm b hb rfl
  go_enter Try.func14, Try.ntmps14
  go_wp2_with fail
  refine (markStore_c f d s L x _ (h.ext (ext_alloc (ext_refl _) _)) (List.nodup_append.1 hnd).1 hs hx0 (by omega)).mono ?_; rintro e1 w1 ⟨rfl, hc1, s', hO1, hM1⟩
  have G0 := hc1.keep (alloc_get_new rfl) (fun hm => absurd (hlt _ hm) (Nat.lt_irrefl _))
  have g2 : w1.cell? ⟨w.heap.size, 2, none⟩ = some g := by rw [cell_block G0]; rfl
  have g3 : w1.cell? ⟨w.heap.size, 3, none⟩ = some e := by rw [cell_block G0]; rfl
  have hD1 : OwnStore w1 g e t K := (h2.ext (ext_alloc (ext_refl _) _)).chg hc1 hap
  have C1 : Chg (L ++ K) w w1 := ((Chg.refl _ w).alloc _).trans (hc1.mono fun b hb => List.mem_append_left _ hb)
  clear hc1 G0
  go_wp2_with fail
  refine (markStore_c g e t K _ _ hD1 (List.nodup_append.1 hnd).2.1 ht (by omega) (by omega)).mono ?_; rintro e2 w2 ⟨rfl, hc2, t', hO2, hM2⟩
  have hF2 := hO1.chg hc2 (fun b hb hm => hap b hm hb)
  go_wp2_with fail
  go_ret
  exact ⟨congrArg (fun z => Ending.returned (.int .i64 z)) (by omega), C1.trans (hc2.mono fun b hb => List.mem_append_right _ hb), s', t', hF2, hO2, hM1, hM2⟩

theorem heldPair_c (f d g e : Value) (n : Int) (s t : Store) (L K : List Nat) (x : Int) (w : World) (h : OwnStore w f d s L) (h2 : OwnStore w g e t K) (hs : Marked s x) (ht : Marked t (x + 90)) (hx0 : 0 ≤ x) (hx1 : x ≤ 10000) :
    Calls Try.prog 19 #[.agg #[f, d, g, e, .int .i64 n], .int .i64 x] w (Ret w (.int .i64 (x + 180))) := by
  go_enter Try.func19, Try.ntmps19
  go_wp2_with fail
  refine (heldStore_c f d s L x _ (h.ext (ext_alloc (ext_refl _) _)) hs hx0 (by omega)).mono ?_; rintro e1 w1 ⟨rfl, hx1⟩
  obtain ⟨hc, hf, hz, hX⟩ := after1 hx1
  go_wp2_with fail
  refine (heldStore_c g e t K _ _ (h2.ext hX) ht (by omega) (by omega)).mono ?_; rintro e2 w2 ⟨rfl, hx2⟩
  go_wp2_with fail
  go_ret
  exact ⟨congrArg (fun z => Ending.returned (.int .i64 z)) (by omega), ext_trans hX hx2⟩
end Go.Bu
