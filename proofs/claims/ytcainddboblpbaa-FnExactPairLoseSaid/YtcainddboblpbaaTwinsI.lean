/- Both stores of a pair while they are changed (the program's twins); PairLose. -/
import Derived.Test.YtcainddboblpbaaSpecCopy
import Derived.Test.YtcainddboblpbaaAllI
import Derived.Test.YtcainddboblpbaaMarks2
set_option linter.unusedVariables false
set_option linter.unusedSimpArgs false
namespace Go.Bu
open Go Go.RowKit Go.Plan Go.Proofs

abbrev twV (b1 b2 : Nat) (l : Int) : Value := .agg #[.pointer (some ⟨b1, 0, none⟩), .pointer (some ⟨b2, 0, none⟩), .int .i64 l]
abbrev slV (a : Option Addr) (n c : Nat) : Value := .slice a n c

theorem first_c (b1 b2 : Nat) (l : Int) (f d : Value) (T : Nat) (w : World) (hf : ∃ a n c, f = .slice a n c) (hd : ∃ a n c, d = .slice a n c) (G : w.heap[b1]? = some (.cells #[f, d] T (0, 0))) :
    Calls Try.prog 64 #[twV b1 b2 l] w (Ret w (.agg #[f, d])) := by
  obtain ⟨a1, n1, c1, rfl⟩ := hf
  obtain ⟨a2, n2, c2, rfl⟩ := hd
  obtain ⟨g0, gf0⟩ := cellsK G
  have l0 := heap_lt G
  go_enter Try.func64, Try.ntmps64
  go_wp2
  refine bodyPost_ret (v := .agg #[.slice a1 n1 c1, .slice a2 n2 c2]) (by simp [results, Try.results64, go_sem]) rfl ?_
  exact ⟨rfl, by go_grown⟩
theorem other_c (b1 b2 : Nat) (l : Int) (f d : Value) (T : Nat) (w : World) (hf : ∃ a n c, f = .slice a n c) (hd : ∃ a n c, d = .slice a n c) (G : w.heap[b2]? = some (.cells #[f, d] T (0, 0))) :
    Calls Try.prog 65 #[twV b1 b2 l] w (Ret w (.agg #[f, d])) := by
  obtain ⟨a1, n1, c1, rfl⟩ := hf
  obtain ⟨a2, n2, c2, rfl⟩ := hd
  obtain ⟨g0, gf0⟩ := cellsK G
  have l0 := heap_lt G
  go_enter Try.func65, Try.ntmps65
  go_wp2
  refine bodyPost_ret (v := .agg #[.slice a1 n1 c1, .slice a2 n2 c2]) (by simp [results, Try.results65, go_sem]) rfl ?_
  exact ⟨rfl, by go_grown⟩
def SetΦ (w : World) (b T : Nat) (f d : Value) (e : Ending) (w' : World) : Prop := e = .returned (.tuple #[]) ∧ Chg [b] w w' ∧ w'.heap[b]? = some (.cells #[f, d] T (0, 0))
theorem setFirst_c (b1 b2 : Nat) (l : Int) (f d u0 u1 : Value) (T : Nat) (w : World) (hf : ∃ a n c, f = .slice a n c) (hd : ∃ a n c, d = .slice a n c) (G : w.heap[b1]? = some (.cells #[u0, u1] T (0, 0))) :
    Calls Try.prog 41 #[twV b1 b2 l, .agg #[f, d]] w (SetΦ w b1 T f d) := by
  obtain ⟨a1, n1, c1, rfl⟩ := hf
  obtain ⟨a2, n2, c2, rfl⟩ := hd
  obtain ⟨g0, gf0⟩ := cellsK G
  have l0 := heap_lt G
  go_enter Try.func41, Try.ntmps41
  go_wp2
  go_end0
  exact ⟨rfl, (((Chg.refl _ _).set (.inl (by simp)) _).set (.inl (by simp)) _).alloc _ |>.alloc _, hg_alloc (hg_alloc (hgo (hg_here (hg_here G)) rfl))⟩
theorem setOther_c (b1 b2 : Nat) (l : Int) (f d u0 u1 : Value) (T : Nat) (w : World) (hf : ∃ a n c, f = .slice a n c) (hd : ∃ a n c, d = .slice a n c) (G : w.heap[b2]? = some (.cells #[u0, u1] T (0, 0))) :
    Calls Try.prog 43 #[twV b1 b2 l, .agg #[f, d]] w (SetΦ w b2 T f d) := by
  obtain ⟨a1, n1, c1, rfl⟩ := hf
  obtain ⟨a2, n2, c2, rfl⟩ := hd
  obtain ⟨g0, gf0⟩ := cellsK G
  have l0 := heap_lt G
  go_enter Try.func43, Try.ntmps43
  go_wp2
  go_end0
  exact ⟨rfl, (((Chg.refl _ _).set (.inl (by simp)) _).set (.inl (by simp)) _).alloc _ |>.alloc _, hg_alloc (hg_alloc (hgo (hg_here (hg_here G)) rfl))⟩
theorem twPair_c (b1 b2 : Nat) (l : Int) (f d g e : Value) (T1 T2 : Nat) (w : World) (hf : ∃ a n c, f = .slice a n c) (hd : ∃ a n c, d = .slice a n c) (hg : ∃ a n c, g = .slice a n c) (he : ∃ a n c, e = .slice a n c)
    (G : w.heap[b1]? = some (.cells #[f, d] T1 (0, 0))) (G' : w.heap[b2]? = some (.cells #[g, e] T2 (0, 0))) :
    Calls Try.prog 40 #[twV b1 b2 l] w (Ret w (.agg #[f, d, g, e, .int .i64 l])) := by
  have hC1 := fun (w' : World) (hx : Ext w w') => first_c b1 b2 l f d T1 w' hf hd (keep_ext hx G)
  have hC2 := fun (w' : World) (hx : Ext w w') => other_c b1 b2 l g e T2 w' hg he (keep_ext hx G')
  obtain ⟨a1, n1, c1, rfl⟩ := hf
  obtain ⟨a2, n2, c2, rfl⟩ := hd
  obtain ⟨a3, n3, c3, rfl⟩ := hg
  obtain ⟨a4, n4, c4, rfl⟩ := he
  have G0 : (w.alloc (.cells #[.pointer (some ⟨b1, 0, none⟩), .pointer (some ⟨b2, 0, none⟩), .int .i64 l] 63)).heap[w.heap.size]? = some (.cells #[.pointer (some ⟨b1, 0, none⟩), .pointer (some ⟨b2, 0, none⟩), .int .i64 l] 63 (0, 0)) := hg_new rfl
  have XA : ∀ o1 o2, Ext w ((w.alloc o1).alloc o2) := fun _ _ => ext_alloc (ext_alloc (ext_refl _) _) _
  go_enter Try.func40, Try.ntmps40
  go_wp2_with fail
  refine wp_region_ext [1, 3] [0, 2, 4, 5, 1, 3, 6] [] [7] (by kernel_rfl) (by kernel_rfl) ?late ?_
  case late => exact fun f hf => absurd hf List.not_mem_nil
  iterate 2
    refine Rob.y (v := ?_) rfl rfl (fun w1 hx hH => ?_) ?_; rotate_left
    · (have hE : Ext _ w1 := (by first | exact hx | exact hx.1); obtain ⟨g0, gf0⟩ := cellsK (keep_ext hE (hg_alloc G0))); go_simp; first | done | rfl
    simp only [Act.put, List.setIfInBounds_toArray, List.set_cons_succ, List.set_cons_zero]
  refine Rob.y (v := ?_) rfl rfl (fun w1 hx hH => ?_) ?_; rotate_left
  · go_simp; first | done | rfl | exact (Bool.not_not _).symm
  simp only [Act.put, List.setIfInBounds_toArray, List.set_cons_succ, List.set_cons_zero]
  refine Rob.y (v := ?_) rfl rfl (fun w1 hx hH => ?_) ?_; rotate_left
  · (have hE : Ext _ w1 := (by first | exact hx | exact hx.1); obtain ⟨g0, gf0⟩ := cellsK (keep_ext hE (hg_alloc G0))); go_simp; first | done | rfl
  simp only [Act.put, List.setIfInBounds_toArray, List.set_cons_succ, List.set_cons_zero]
  refine Rob.cv (.agg #[.slice a1 n1 c1, .slice a2 n2 c2]) rfl rfl rfl (fun _ _ => ext_trans) (fun w1 hx hH => ?_) (fun lo1 hi1 hlo1 hhi1 => ?_)
  · unfold RunTo; go_simp; exact (hC1 _ (ext_trans (XA _ _) hx)).mono fun e w' h => h.to
  simp only [Act.put, List.setIfInBounds_toArray, List.set_cons_succ, List.set_cons_zero]
  refine Rob.cv (.agg #[.slice a3 n3 c3, .slice a4 n4 c4]) rfl rfl rfl (fun _ _ => ext_trans) (fun w1 hx hH => ?_) (fun lo3 hi3 hlo3 hhi3 => ?_)
  · unfold RunTo; go_simp; exact (hC2 _ (ext_trans (XA _ _) hx)).mono fun e w' h => h.to
  simp only [Act.put, List.setIfInBounds_toArray, List.set_cons_succ, List.set_cons_zero]
  refine Rob.y (v := ?_) rfl rfl (fun w1 hx hH => ?_) ?_; rotate_left
  · go_simp; first | done | rfl | exact (Bool.not_not _).symm
  simp only [Act.put, List.setIfInBounds_toArray, List.set_cons_succ, List.set_cons_zero]
  refine fin_tail (fun w3 hx3 _ => ?_)
  simp only [dstOf, List.getElem?_cons_succ, List.getElem?_cons_zero, Option.bind_some, Act.put, List.setIfInBounds_toArray, List.set_cons_succ, List.set_cons_zero, List.filterMap_cons, List.filterMap_nil]
  have G1 := keep_ext hx3 (hg_new (b := w.heap.size + 1) (by simp))
  obtain ⟨g1, gf1⟩ := cellsK G1
  have X3 := ext_trans (XA _ _) hx3
  clear hC1 hC2 G0 G G'
  go_wp2
  refine bodyPost_ret (v := .agg #[.slice a1 n1 c1, .slice a2 n2 c2, .slice a3 n3 c3, .slice a4 n4 c4, .int .i64 l]) (by simp [results, Try.results40, go_sem, g1, gf1]) rfl ⟨rfl, ?_⟩
  ((repeat (first | with_reducible (refine ext_set2 ?_ ?_); focus (first | exact Nat.le_refl _ | (dsimp only; omega) | (simp; omega)) | with_reducible refine ext_alloc2 ?_)); with_reducible exact X3)

/-- twins: two variables of their own, each with a store -/
def Tw (base : Nat) (w : World) (v : Value) (s t : Store) (l : Int) : Prop := ∃ b1 b2 f d g e L K T1 T2, v = twV b1 b2 l ∧ w.heap[b1]? = some (.cells #[f, d] T1 (0, 0)) ∧ w.heap[b2]? = some (.cells #[g, e] T2 (0, 0)) ∧ OwnStore w f d s L ∧ OwnStore w g e t K ∧ (b1 :: b2 :: (L ++ K)).Nodup ∧ ∀ b ∈ b1 :: b2 :: (L ++ K), base ≤ b
def TwTo (w : World) (p : Pair) (e : Ending) (w' : World) : Prop := ∃ v, e = .returned v ∧ Ext w w' ∧ Tw w.heap.size w' v p.A p.B p.lost

theorem StoreCp.to {w w' : World} {s : Store} {e : Ending} (h : StoreCp w s e w') : ∃ v, e = .returned v ∧ RetC w (StoreM s) v w' := by
  obtain ⟨f, d, L, he, hx, ho, hn, hb⟩ := h
  exact ⟨_, he, hx, f, d, L, rfl, ho, hn, fun b hm => ⟨hb b hm, ho.lt b hm⟩⟩

set_option maxRecDepth 20000 in
set_option maxHeartbeats 2000000 in
theorem twinsOf_c (f d g e : Value) (p : Pair) (w : World) (hA : StoreV w f d p.A) (hB : StoreV w g e p.B) (hsA : Shape4 p.A) (hsB : Shape4 p.B) :
    Calls Try.prog 39 #[.agg #[f, d, g, e, .int .i64 p.lost]] w (TwTo w p) := by
  have hC1 := fun (w' : World) (hx : Ext w w') => storeCopy_c f d p.A w' (hA.ext hx) hsA.flash hsA.pages hsA.disk
  have hC2 := fun (w' : World) (hx : Ext w w') => storeCopy_c g e p.B w' (hB.ext hx) hsB.flash hsB.pages hsB.disk
  obtain ⟨a1, n1, rfl⟩ := hA.1.form
  obtain ⟨a2, n2, rfl⟩ := hA.2.form
  obtain ⟨a3, n3, rfl⟩ := hB.1.form
  obtain ⟨a4, n4, rfl⟩ := hB.2.form
  clear hA hB hsA hsB
  have XA : ∀ o1 o2, Ext w ((w.alloc o1).alloc o2) := fun _ _ => ext_alloc (ext_alloc (ext_refl _) _) _
  have G0 : (w.alloc (.cells #[.slice a1 p.A.flash.length n1, .slice a2 p.A.disk.length n2, .slice a3 p.B.flash.length n3, .slice a4 p.B.disk.length n4, .int .i64 p.lost] 34)).heap[w.heap.size]? = some (.cells #[.slice a1 p.A.flash.length n1, .slice a2 p.A.disk.length n2, .slice a3 p.B.flash.length n3, .slice a4 p.B.disk.length n4, .int .i64 p.lost] 34 (0, 0)) := hg_new rfl
  go_enter Try.func39, Try.ntmps39
  go_wp2_with fail
  refine wp_region_ext [2, 5] [0, 1, 3, 4, 2, 5] [(6, .cells #[.slice none 0 0, .slice none 0 0] 86, fun b => .pointer (some ⟨b, 0, none⟩)), (7, .cells #[.slice none 0 0, .slice none 0 0] 87, fun b => .pointer (some ⟨b, 0, none⟩))] [8, 9] (by kernel_rfl) (by kernel_rfl) ?late ?_
  case late =>
    intro f hf
    simp only [List.mem_cons, List.not_mem_nil, or_false] at hf
    rcases hf with rfl | rfl
    all_goals (refine ⟨_, rfl, fun a w => ?_⟩; go_simp)
  refine Rob.y (v := ?_) rfl rfl (fun w1 hx hH => ?_) ?_; rotate_left
  · go_simp; first | done | rfl | exact (Bool.not_not _).symm
  simp only [Act.put, List.setIfInBounds_toArray, List.set_cons_succ, List.set_cons_zero]
  refine Rob.y (v := ?_) rfl rfl (fun w1 hx hH => ?_) ?_; rotate_left
  · (have hE : Ext _ w1 := (by first | exact hx | exact hx.1 | exact hx.1.1); obtain ⟨g0, gf0⟩ := cellsK (keep_ext hE (hg_alloc G0))); go_simp; first | done | rfl
  simp only [Act.put, List.setIfInBounds_toArray, List.set_cons_succ, List.set_cons_zero]
  refine Rob.y (v := ?_) rfl rfl (fun w1 hx hH => ?_) ?_; rotate_left
  · go_simp; first | done | rfl | exact (Bool.not_not _).symm
  simp only [Act.put, List.setIfInBounds_toArray, List.set_cons_succ, List.set_cons_zero]
  refine Rob.y (v := ?_) rfl rfl (fun w1 hx hH => ?_) ?_; rotate_left
  · (have hE : Ext _ w1 := (by first | exact hx | exact hx.1 | exact hx.1.1); obtain ⟨g0, gf0⟩ := cellsK (keep_ext hE (hg_alloc G0))); go_simp; first | done | rfl
  simp only [Act.put, List.setIfInBounds_toArray, List.set_cons_succ, List.set_cons_zero]
  refine Rob.c (StoreM p.A) rfl rfl rfl (fun _ _ => (by (first | exact ext_trans | exact fun h k => ⟨ext_trans h.1 k, h.2.ext k⟩))) (fun _ _ _ _ _ => fun h hx => h.ext hx) (fun w1 hx hH => ?_) (fun lo2 hi2 v2 hlo2 hhi2 hv2 => ?_)
  · unfold RunTo; go_simp; exact ((hC1 _ (ext_trans (XA _ _) hx))).mono fun e w' h => h.to
  simp only [Act.put, List.setIfInBounds_toArray, List.set_cons_succ, List.set_cons_zero]
  obtain ⟨_, hv2⟩ := hv2
  obtain ⟨b1, m1, c1, b2, m2, c2, rfl⟩ := hv2.forms
  refine Rob.c (StoreM p.B) rfl rfl rfl (fun _ _ => (by (first | exact ext_trans | exact fun h k => ⟨ext_trans h.1 k, h.2.ext k⟩))) (fun _ _ _ _ _ => fun h hx => h.ext hx) (fun w1 hx hH => ?_) (fun lo5 hi5 v5 hlo5 hhi5 hv5 => ?_)
  · unfold RunTo; go_simp; exact ((hC2 _ (ext_trans (XA _ _) hx.1))).mono fun e w' h => h.to
  simp only [Act.put, List.setIfInBounds_toArray, List.set_cons_succ, List.set_cons_zero]
  obtain ⟨_, hv5⟩ := hv5
  obtain ⟨b3, m3, c3, b4, m4, c4, rfl⟩ := hv5.forms
  refine fin_two (by decide) (fun w3 q1 q2 hx3 hH hq1 ht1 ho1 hr1 hq2 ht2 ho2 hr2 hne => ?_)
  simp only [dstOf, List.getElem?_cons_succ, List.getElem?_cons_zero, Option.bind_some, Act.put, List.setIfInBounds_toArray, List.set_cons_succ, List.set_cons_zero, List.filterMap_cons, List.filterMap_nil]
  obtain ⟨⟨hx3, hM1⟩, hM2⟩ := hx3
  obtain ⟨L, hO1, hn1, hb1⟩ := hM1.own
  obtain ⟨K, hO2, hn2, hb2⟩ := hM2.own
  have X3 := ext_trans (XA _ _) hx3
  replace G0 := keep_ext hx3 (hg_alloc G0)
  have G1 := keep_ext hx3 (hg_new (b := w.heap.size + 1) (by simp))
  simp at hlo2 hq1 hq2 hr1 hr2
  obtain ⟨z0, zf0⟩ := cellsK G0
  obtain ⟨z1, zf1⟩ := cellsK G1
  obtain ⟨k1, kf1⟩ := cellsK ho1
  obtain ⟨k2, kf2⟩ := cellsK ho2
  have HO1 := Lib.hid hO1
  have HO2 := Lib.hid hO2
  have HN : Hid ((q1 :: q2 :: (L ++ K)).Nodup) := Lib.hid (by
    have e1 : ∀ b ∈ L ++ K, (lo2 ≤ b ∧ b < hi2) ∨ (lo5 ≤ b ∧ b < hi5) := fun b hb => (List.mem_append.1 hb).imp (hb1 b) (hb2 b)
    refine List.nodup_cons.2 ⟨fun hm => ?_, List.nodup_cons.2 ⟨fun hm => ?_, List.nodup_append.2 ⟨hn1, hn2, fun x hx y hy e => ?_⟩⟩⟩
    · rcases List.mem_cons.1 hm with h | h
      · exact hne h
      · have := e1 _ h; omega
    · have := e1 _ hm; omega
    · have := hb1 x hx; have := hb2 y hy; omega)
  have HB : Hid (∀ b ∈ L ++ K, w.heap.size + 2 ≤ b ∧ b ≠ q1 ∧ b ≠ q2) := Lib.hid (fun b hb => by
    have : (lo2 ≤ b ∧ b < hi2) ∨ (lo5 ≤ b ∧ b < hi5) := (List.mem_append.1 hb).imp (hb1 b) (hb2 b)
    omega)
  clear hC1 hC2 hM1 hM2 hO1 hO2 hn1 hn2 hb1 hb2 hx3 hv2 hv5 hr1 hr2
  go_wp2
  refine bodyPost_ret (v := twV q1 q2 p.lost) (by simp [results, Try.results39, go_sem, z1, zf1]) rfl ⟨_, rfl, ?_, q1, q2, .slice b1 m1 c1, .slice b2 m2 c2, .slice b3 m3 c3, .slice b4 m4 c4, L, K, 86, 87, rfl, ?_, ?_, ?_, ?_, HN.out, ?_⟩
  · ((repeat (first | with_reducible (refine ext_set2 ?_ ?_); focus (first | exact Nat.le_refl _ | (dsimp only; omega) | (simp; omega)) | with_reducible refine ext_alloc2 ?_)); with_reducible exact X3)
  · exact hg_set (by dsimp only; omega) (hg_set (by dsimp only; omega) (hg_set (by dsimp only; omega) (hg_set (by exact hne) (hg_set (by exact hne) (hgo (hg_here (hg_here ho1)) rfl)))))
  · exact hg_set (by dsimp only; omega) (hg_set (by dsimp only; omega) (hg_set (by dsimp only; omega) (hgo (hg_here (hg_here (hg_set (by exact Ne.symm hne) (hg_set (by exact Ne.symm hne) ho2)))) rfl)))
  · refine HO1.out.keep fun b hb => ?_
    have := HB.out b (List.mem_append_left _ hb)
    iterate 7 rw [setCell_other (by omega)]
  · refine HO2.out.keep fun b hb => ?_
    have := HB.out b (List.mem_append_right _ hb)
    iterate 7 rw [setCell_other (by omega)]
  · intro b hb
    rcases List.mem_cons.1 hb with rfl | hb
    · omega
    · rcases List.mem_cons.1 hb with rfl | hb
      · omega
      · have := HB.out b hb; omega

/-- a pair that a call has made, or the one with nothing in it -/
def pair0 : Pair := ⟨⟨[], []⟩, ⟨[], []⟩, 0⟩
def nilPair : Value := .agg #[.slice none 0 0, .slice none 0 0, .slice none 0 0, .slice none 0 0, .int .i64 0]
def PairO (base : Nat) (w : World) (v : Value) (p : Pair) : Prop := (v = nilPair ∧ p = pair0) ∨ ∃ f d g e L K, v = .agg #[f, d, g, e, .int .i64 p.lost] ∧ OwnStore w f d p.A L ∧ OwnStore w g e p.B K ∧ (L ++ K).Nodup ∧ (∀ b ∈ L ++ K, base ≤ b) ∧ Shape4 p.A ∧ Shape4 p.B
def PairΦ (w : World) (p : Pair) (e : Ending) (w' : World) : Prop := ∃ v, e = .returned v ∧ Ext w w' ∧ PairO w.heap.size w' v p
def pairLoseV (p : Pair) (which : Int) : Pair :=
  if pairOkB p = true ∧ 1 ≤ which ∧ which ≤ 2 then (if p.lost = 0 then (if which = 1 then ⟨newStore, p.B, 1⟩ else ⟨p.A, newStore, 2⟩) else p) else pair0

theorem storeOk_shape {s : Store} (h : storeOkB s = true) : Shape4 s :=
  ⟨flashOk_len (storeOk_flash h), fun b hb => (flashOk_block (storeOk_flash h) hb).1, storeOk_disk h⟩
end Go.Bu
