/- The laws' copies of blocks, stores and pairs: in memory of their own. -/
import Derived.Test.YtcainddboblpbaaTo
import Derived.Test.YtcainddboblpbaaNew3
import Derived.Test.YtcainddboblpbaaOpenP
import Derived.Test.YtcainddboblpbaaMarks
set_option linter.unusedVariables false
set_option linter.unusedSimpArgs false
namespace Go.Bu
open Go Go.RowKit Go.Plan Go.Proofs

theorem Filled.ownV {α : Type} {n : Nat} {enc : α → List Value} {w : World} {B T size : Nat} {xs : List α} (h : Filled n enc w B T size xs) : OwnV n enc w (.slice (some ⟨B, 0, none⟩) xs.length xs.length) xs B := by
  obtain ⟨c, h1, h2, h3⟩ := h
  exact ⟨T, 0, 0, rfl, c, h1, h3⟩
theorem OwnV.slf {α : Type} {n : Nat} {enc : α → List Value} {w : World} {v : Value} {xs : List α} {B : Nat} (h : OwnV n enc w v xs B) : ∃ o cap, v = .slice (some ⟨B, o, none⟩) xs.length cap := by
  obtain ⟨T, o, cap, hv, _⟩ := h; exact ⟨o, _, hv⟩

theorem toPageS_c (v : Value) (xs : List Page) (w : World) (hp : Pages (Old w) w v xs) (hn : xs.length ≤ 1048576) :
    Calls Try.prog 102 #[v] w (fun e w' => ∃ v' B, e = .returned v' ∧ Ext w w' ∧ w.heap.size ≤ B ∧ OwnPages w' v' xs B) := by
  obtain ⟨a, cap, rfl⟩ := hp.form
  have hmk := make_n (P := Try.prog) 104 99 (pageC ⟨0, ⟨0, 0, 0, 0⟩⟩).toArray 5 40 Try.underlying104 (by kernel_rfl) xs.length (by omega) (by omega)
  go_enter Try.func102, Try.ntmps102
  go_wp2
  go_loopw [4] (fun i wr => ∃ k : Nat, k ≤ xs.length ∧ i = .int .i64 k ∧ Ext w wr ∧ Filled 5 pageC wr w.heap.size 99 (xs.length * 5) (xs.take k)) (fun i _ => xs.length - (intOf i).toNat)
  case atStart => exact ⟨0, Nat.zero_le _, rfl, ext_alloc (ext_refl _) _, Filled.made _ _ _ _⟩
  case round =>
    obtain ⟨k, hk, rfl, hx, hfl⟩ := hrel
    by_cases hlt : k < xs.length
    · obtain ⟨b, o, rfl, hb, h0, h1, h2, h3, h4⟩ := (hp.ext hx).at5 hlt
      go_wp2_with fail
      refine (toPage_c xs[k] _).mono ?_; rintro e1 w1 ⟨rfl, hx1⟩
      have hfl1 := hfl.ext hx1
      have hl : (xs.take k).length = k := by simp; omega
      have hth := hfl1.there (o := k * 5) (m := 5) (by omega)
      have hF := Filled.snoc (n := 5) (enc := pageC) (fun _ => rfl) xs[k] hfl1 (by rw [hl]; omega)
      rw [hl, take_snoc xs k hlt] at hF
      have hX := ext_setAll (ext_trans hx hx1) (Nat.le_refl _) (k * 5) (pageC xs[k])
      have HF := Lib.hid hF; have HX := Lib.hid hX
      clear hF hX hfl1 hfl h0 h1 h2 h3 h4
      go_wp2_with (refine wpList_store_mid rfl 99 _ _ rfl w.heap.size (k * 5) (pageC xs[k]).toArray rfl rfl hth (by kernel_rfl) (by simp [Value.oneCell']) ?_; change wpList _ _ _ _ _ (setAll w1 w.heap.size (k * 5) (pageC xs[k])); generalize setAll w1 w.heap.size (k * 5) (pageC xs[k]) = w2 at *)
      go_roundw
      case rel => exact ⟨k + 1, by omega, by go_num, HX.out, HF.out⟩
      case measure => simp [intOf]; omega
    · obtain rfl : k = xs.length := by omega
      go_wp2
      refine bodyPost_ret (v := .slice (some ⟨w.heap.size, 0, none⟩) xs.length xs.length) (by simp [results, Try.results102, go_sem]) rfl ⟨_, _, rfl, hx, Nat.le_refl _, ?_⟩
      rw [List.take_length] at hfl
      exact hfl.ownV

theorem toIntS_c (v : Value) (xs : List Int) (w : World) (hp : Ints (Old w) w v xs) (hn : xs.length ≤ 1048576) :
    Calls Try.prog 58 #[v] w (fun e w' => ∃ v' B, e = .returned v' ∧ Ext w w' ∧ w.heap.size ≤ B ∧ OwnInts w' v' xs B) := by
  obtain ⟨a, cap, rfl⟩ := hp.form
  have hmk := make_n (P := Try.prog) 23 3 #[.int .i64 0] 1 8 Try.underlying23 (by kernel_rfl) xs.length (by omega) (by omega)
  go_enter Try.func58, Try.ntmps58
  go_wp2
  go_loopw [4] (fun i wr => ∃ k : Nat, k ≤ xs.length ∧ i = .int .i64 k ∧ Ext w wr ∧ Filled 1 intC wr w.heap.size 3 xs.length (xs.take k)) (fun i _ => xs.length - (intOf i).toNat)
  case atStart => exact ⟨0, Nat.zero_le _, rfl, ext_alloc (ext_refl _) _, Filled.made _ _ _ _⟩
  case round =>
    obtain ⟨k, hk, rfl, hx, hfl⟩ := hrel
    by_cases hlt : k < xs.length
    · obtain ⟨b, o, rfl, hb, h0⟩ := (hp.ext hx).at1 hlt
      have hl : (xs.take k).length = k := by simp; omega
      have hth := hfl.there (o := k) (m := 1) (by omega)
      obtain ⟨hs1, hs2⟩ := hth 0 (by omega)
      obtain ⟨u, hu⟩ := Option.isSome_iff_exists.1 hs1
      simp only [Nat.add_zero] at hu hs2
      have hF := Filled.snoc (n := 1) (enc := fun n : Int => [.int .i64 n]) (fun _ => rfl) xs[k] hfl (by rw [hl]; omega)
      rw [hl, take_snoc xs k hlt] at hF
      have hX := ext_setAll hx (Nat.le_refl _) (k * 1) [.int .i64 xs[k]]
      simp only [Nat.mul_one] at hX hF
      have HF := Lib.hid hF; have HX := Lib.hid hX
      clear hF hX hfl hth hs1
      go_wp2
      go_roundw
      case rel => exact ⟨k + 1, by omega, by go_num, HX.out, by exact HF.out⟩
      case measure => simp [intOf]; omega
    · obtain rfl : k = xs.length := by omega
      go_wp2
      refine bodyPost_ret (v := .slice (some ⟨w.heap.size, 0, none⟩) xs.length xs.length) (by simp [results, Try.results58, go_sem]) rfl ⟨_, _, rfl, hx, Nat.le_refl _, ?_⟩
      rw [List.take_length] at hfl
      exact hfl.ownV

theorem toBlock_c (pv : Value) (x : Block) (w : World) (hp : Pages (Old w) w pv x.pages) (hn : x.pages.length ≤ 1048576) :
    Calls Try.prog 81 #[.agg #[pv, .int .i64 x.worn]] w (fun e w' => ∃ pv' b, e = .returned (.agg #[pv', .int .i64 x.worn]) ∧ Ext w w' ∧ w.heap.size ≤ b ∧ OwnPages w' pv' x.pages b) := by
  have hc1 := fun (w' : World) (hx : Ext w w') => toPageS_c pv x.pages w' (hp.ext hx) hn
  obtain ⟨a, cap, rfl⟩ := hp.form
  go_enter Try.func81, Try.ntmps81
  go_wp2_with fail
  refine (hc1 _ (ext_alloc (ext_alloc (ext_alloc (ext_refl _) _) _) _)).mono ?_; rintro e1 w1 ⟨v1, B, rfl, hx, hB, hO⟩
  obtain ⟨o, c, rfl⟩ := hO.slf
  simp at hB
  obtain ⟨hc, hf, hz0, hz1, hz2, hX⟩ := after3 hx
  have HO := Lib.hid hO
  clear hO hc1
  go_wp2
  refine bodyPost_ret (v := .agg #[.slice (some ⟨B, o, none⟩) x.pages.length c, .int .i64 x.worn]) (by simp [results, Try.results81, go_sem, hc, hf, hz0, hz1, hz2]) rfl ⟨_, B, rfl, ?_, by omega, ?_⟩
  · ((repeat (first | with_reducible (refine ext_set2 ?_ ?_); focus (first | exact Nat.le_refl _ | (dsimp only; omega) | (simp; omega)) | with_reducible refine ext_alloc2 ?_)); with_reducible exact hX)
  · exact HO.out.keep (by rw [setCell_other (by omega), setCell_other (by omega), setCell_other (by omega), setCell_other (by omega)])

set_option maxRecDepth 20000 in
set_option maxHeartbeats 1000000 in
theorem toBlockS_c (v : Value) (f : List Block) (w : World) (h : Flash (Old w) w v f) (hn : f.length ≤ 1048576) (hp : ∀ b ∈ f, b.pages.length ≤ 1048576) :
    Calls Try.prog 57 #[v] w (fun e w' => ∃ v' B bs, e = .returned v' ∧ Ext w w' ∧ OwnFlash w' v' f B bs ∧ (B :: bs).Nodup ∧ ∀ b ∈ B :: bs, w.heap.size ≤ b) := by
  obtain ⟨a, cap, rfl⟩ := h.form
  have HP := Lib.hid hp
  clear hp
  have hmk := make_n (P := Try.prog) 30 106 (rowC (.slice none 0 0, 0)).toArray 2 32 Try.underlying30 (by kernel_rfl) f.length (by omega) (by omega)
  go_enter Try.func57, Try.ntmps57
  go_wp2
  go_loopw [4] (fun i wr => ∃ (k : Nat) (rows : List (Value × Int)) (bs : List Nat), k ≤ f.length ∧ i = .int .i64 k ∧ Ext w wr ∧ Filled 2 rowC wr w.heap.size 106 (f.length * 2) rows ∧ rows.length = k ∧ bs.length = k ∧ bs.Nodup ∧ Hid (∀ b ∈ bs, w.heap.size < b) ∧ Hid (PagesAt wr rows (f.take k) bs)) (fun i _ => f.length - (intOf i).toNat)
  case atStart => exact ⟨0, [], [], Nat.zero_le _, rfl, ext_alloc (ext_refl _) _, Filled.made _ _ _ _, rfl, rfl, List.nodup_nil, Lib.hid (fun b hb => by cases hb), Lib.hid (fun i x r b h => by simp at h)⟩
  case round =>
    obtain ⟨k, rows, bs, hk, rfl, hX, hfl, hrl, hbl, hnd, HB, HPA⟩ := hrel
    by_cases hlt : k < f.length
    · obtain ⟨b, o, pv, rfl, hb, hpp, h0, h1⟩ := (h.ext hX).at2 hlt
      obtain ⟨pa, pcap, rfl⟩ := hpp.form
      have hpl := HP.out f[k] (List.getElem_mem _)
      go_wp2_with fail
      refine (toBlock_c _ f[k] _ hpp hpl).mono ?_; rintro e1 w1 ⟨pv', b1, rfl, hx1, hb1, hO1⟩
      obtain ⟨o1, c1, rfl⟩ := hO1.slf
      have hfl1 := hfl.ext hx1
      have hth := hfl1.there (o := k * 2) (m := 2) (by omega)
      have hF := Filled.snoc (n := 2) (enc := rowC) (fun _ => rfl) (.slice (some ⟨b1, o1, none⟩) f[k].pages.length c1, f[k].worn) hfl1 (by rw [hrl]; omega)
      rw [hrl] at hF
      have hlB : w.heap.size < wr.heap.size := by obtain ⟨c, hc, _⟩ := hfl; exact heap_lt hc
      have hXn := ext_setAll (ext_trans hX hx1) (Nat.le_refl _) (k * 2) (rowC (.slice (some ⟨b1, o1, none⟩) f[k].pages.length c1, f[k].worn))
      have HF := Lib.hid hF; have HXN := Lib.hid hXn
      have HPN : Hid (PagesAt (setAll w1 w.heap.size (k * 2) (rowC (.slice (some ⟨b1, o1, none⟩) f[k].pages.length c1, f[k].worn))) (rows ++ [(.slice (some ⟨b1, o1, none⟩) f[k].pages.length c1, f[k].worn)]) (f.take (k + 1)) (bs ++ [b1])) := Lib.hid (by
        intro i x r b2 hx hr hbi
        rw [← take_snoc f k hlt] at hx
        by_cases hik : i < k
        · rw [List.getElem?_append_left (by simp; omega)] at hx
          rw [List.getElem?_append_left (by omega)] at hr hbi
          obtain ⟨q1, q2⟩ := HPA.out i x r b2 hx hr hbi
          have := HB.out b2 (List.mem_of_getElem? hbi)
          exact ⟨q1, (q2.ext hx1).keep (setAll_other _ (by omega) _ _ _)⟩
        · have hi : i = k := by
            have := (List.getElem?_eq_some_iff.1 hbi).1
            simp at this; omega
          subst hi
          rw [List.getElem?_append_right (by simp; omega)] at hx
          rw [List.getElem?_append_right (by omega)] at hr hbi
          simp [hbl] at hbi
          simp [hrl] at hr
          simp [show min i f.length = i by omega] at hx
          subst hbi; subst hr; subst hx
          exact ⟨rfl, hO1.keep (setAll_other _ (by omega) _ _ _)⟩)
      have HB2 : Hid (∀ b ∈ bs ++ [b1], w.heap.size < b) := Lib.hid (fun b hb => by
        rcases List.mem_append.1 hb with hb | hb
        · exact HB.out b hb
        · rw [List.mem_singleton] at hb; omega)
      have hnd2 : (bs ++ [b1]).Nodup := by
        rw [List.nodup_append]
        refine ⟨hnd, by simp, fun a ha b hb => ?_⟩
        rw [List.mem_singleton] at hb
        subst hb
        obtain ⟨i, hi, rfl⟩ := List.mem_iff_getElem.1 ha
        have := (HPA.out i f[i] rows[i] bs[i] (by rw [List.getElem?_take_of_lt (by omega)]; exact List.getElem?_eq_getElem (by omega)) (List.getElem?_eq_getElem (by omega)) (List.getElem?_eq_getElem hi)).2.lt
        omega
      clear hF hXn hfl1 hfl h0 h1 HPA HB hO1 hpp hnd
      go_wp2_with (refine wpList_store_mid rfl 106 _ _ rfl w.heap.size (k * 2) (rowC (.slice (some ⟨b1, o1, none⟩) f[k].pages.length c1, f[k].worn)).toArray rfl rfl hth (by kernel_rfl) (by simp [Value.oneCell']) ?_; change wpList _ _ _ _ _ (setAll w1 w.heap.size (k * 2) (rowC (.slice (some ⟨b1, o1, none⟩) f[k].pages.length c1, f[k].worn))); generalize setAll w1 w.heap.size (k * 2) (rowC (.slice (some ⟨b1, o1, none⟩) f[k].pages.length c1, f[k].worn)) = w2 at *)
      go_roundw
      case rel => exact ⟨k + 1, _, _, by omega, by go_num, HXN.out, HF.out, by simp [hrl], by simp [hbl], hnd2, HB2, HPN⟩
      case measure => simp [intOf]; omega
    · obtain rfl : k = f.length := by omega
      go_wp2
      obtain ⟨c, g1, g2, g3⟩ := hfl
      refine bodyPost_ret (v := .slice (some ⟨w.heap.size, 0, none⟩) f.length f.length) (by simp [results, Try.results57, go_sem]) rfl ⟨_, w.heap.size, bs, rfl, hX, ⟨rows, ⟨106, 0, 0, by rw [hrl, Nat.add_zero], c, g1, g3⟩, hrl, hbl, ?_⟩, List.nodup_cons.2 ⟨fun hm => by have := HB.out _ hm; omega, hnd⟩, fun b hb => ?_⟩
      · have := HPA.out; rw [List.take_length] at this; exact this
      · rcases List.mem_cons.1 hb with rfl | hb
        · exact Nat.le_refl _
        · exact Nat.le_of_lt (HB.out b hb)

def StoreTo (w : World) (s : Store) (e : Ending) (w' : World) : Prop := ∃ f' d' L, e = .returned (.agg #[f', d']) ∧ Ext w w' ∧ OwnStore w' f' d' s L ∧ L.Nodup ∧ ∀ b ∈ L, w.heap.size ≤ b
theorem OwnFlash.slf {w : World} {v : Value} {f : List Block} {B : Nat} {bs : List Nat} (h : OwnFlash w v f B bs) : ∃ o cap, v = .slice (some ⟨B, o, none⟩) f.length cap := by
  obtain ⟨rows, hO, h2, _⟩ := h
  obtain ⟨o, cap, hv⟩ := hO.slf
  exact ⟨o, cap, by rw [hv, h2]⟩

set_option maxRecDepth 20000 in
set_option maxHeartbeats 1000000 in
theorem toStore_c (f d : Value) (s : Store) (w : World) (h : StoreV w f d s) (hs : Small s) :
    Calls Try.prog 33 #[.agg #[f, d]] w (StoreTo w s) := by
  have hc1 := fun (w' : World) (hx : Ext w w') => toBlockS_c f s.flash w' (h.1.ext hx) hs.1 hs.2.1
  have hc2 := fun (w' : World) (hx : Ext w w') => toIntS_c d s.disk w' (h.2.ext hx) hs.2.2
  obtain ⟨a, cap, rfl⟩ := h.1.form
  obtain ⟨a2, cap2, rfl⟩ := h.2.form
  go_enter Try.func33, Try.ntmps33
  go_wp2_with fail
  refine (hc1 _ (ext_alloc (ext_alloc (ext_alloc (ext_refl _) _) _) _)).mono ?_; rintro e1 w1 ⟨v1, B, bs, rfl, hx1, hO1, hn1, hb1⟩
  obtain ⟨o1, c1, rfl⟩ := hO1.slf
  have G0 := keep_ext hx1 (hg_alloc (hg_alloc (hg_new (b := w.heap.size) rfl)))
  have G1 := keep_ext hx1 (hg_alloc (hg_new (b := w.heap.size + 1) (by simp)))
  have G2 := keep_ext hx1 (hg_new (b := w.heap.size + 1 + 1) (by simp))
  have X1 : Ext w w1 := ext_trans (ext_alloc (ext_alloc (ext_alloc (ext_refl w) _) _) _) hx1
  simp only [World.alloc, Array.size_push] at hb1
  have hs1 := hx1.size
  simp at hs1
  have HO1 := Lib.hid hO1
  have HN1 := Lib.hid hn1
  have HB1 : Hid (∀ b ∈ B :: bs, w.heap.size + 3 ≤ b) := Lib.hid (fun b hb => by have := hb1 b hb; omega)
  have HL1 := Lib.hid hO1.lt
  clear hc1 hx1 hO1 hn1 hb1
  obtain ⟨g0, gf0⟩ := cellsK G0
  obtain ⟨g2, gf2⟩ := cellsK G2
  go_wp2_with fail
  refine (hc2 _ (ext_set X1 (by dsimp only; omega) _)).mono ?_; rintro e2 w2 ⟨v2, D, rfl, hx2, hD, hO2⟩
  obtain ⟨o2, c2, rfl⟩ := hO2.slf
  have X2 : Ext w w2 := ext_trans (ext_set X1 (by dsimp only; omega) _) hx2
  have HO2 := Lib.hid hO2
  have hO1' : OwnFlash w2 (.slice (some ⟨B, o1, none⟩) s.flash.length c1) s.flash B bs := (HO1.out.keep (fun b hb => setCell_other (by have := HB1.out b hb; omega))).ext hx2
  have HO1' := Lib.hid hO1'
  have hD' : w1.heap.size ≤ D := by rw [setCell_size] at hD; exact hD
  replace G0 := keep_ext hx2 (hg_set (by dsimp only; omega) G0)
  replace G1 := keep_ext hx2 (hg_set (by dsimp only; omega) G1)
  replace G2 := keep_ext hx2 (hg_here G2)
  clear hc2 hO2 hO1' HO1 hD X1 hx2 g0 gf0 g2 gf2
  obtain ⟨g0, gf0⟩ := cellsK G0
  obtain ⟨g1, gf1⟩ := cellsK G1
  obtain ⟨g2, gf2⟩ := cellsK G2
  go_wp2_with fail
  refine bodyPost_ret (v := .agg #[.slice (some ⟨B, o1, none⟩) s.flash.length c1, .slice (some ⟨D, o2, none⟩) s.disk.length c2]) (by simp [results, Try.results33, go_sem, g1, gf1, g2, gf2]) rfl ⟨_, _, B :: bs ++ [D], rfl, ?_, ⟨B, bs, D, rfl, ?_, ?_⟩, ?_, ?_⟩
  · ((repeat (first | with_reducible (refine ext_set2 ?_ ?_); focus (first | exact Nat.le_refl _ | (dsimp only; omega) | (simp; omega)) | with_reducible refine ext_alloc2 ?_)); with_reducible exact X2)
  · refine HO1'.out.keep fun b hb => ?_
    have := HB1.out b hb
    rw [setCell_other (by omega), setCell_other (by omega), setCell_other (by omega)]
  · exact HO2.out.keep (by rw [setCell_other (by omega), setCell_other (by omega), setCell_other (by omega)])
  · rw [List.nodup_append]
    refine ⟨HN1.out, by simp, fun x hx y hy e => ?_⟩
    rw [List.mem_singleton] at hy
    have := HL1.out x hx; omega
  · intro b hb
    rcases List.mem_append.1 hb with hb | hb
    · have := HB1.out b hb; omega
    · rw [List.mem_singleton] at hb; omega
def PairTo (w : World) (p : Pair) (e : Ending) (w' : World) : Prop := ∃ f d g h L K, e = .returned (.agg #[f, d, g, h, .int .i64 p.lost]) ∧ Ext w w' ∧ OwnStore w' f d p.A L ∧ OwnStore w' g h p.B K ∧ (L ++ K).Nodup ∧ ∀ b ∈ L ++ K, w.heap.size ≤ b

set_option maxRecDepth 20000 in
set_option maxHeartbeats 1000000 in
theorem toPair_c (v : Value) (p : Pair) (w : World) (h : PairIn w v p) (hsA : Small p.A) (hsB : Small p.B) :
    Calls Try.prog 10 #[v] w (PairTo w p) := by
  obtain ⟨f, d, g, e, rfl, ⟨hA, _⟩, hB, _⟩ := h
  have hc1 := fun (w' : World) (hx : Ext w w') => toStore_c f d p.A w' (hA.ext hx) hsA
  have hc2 := fun (w' : World) (hx : Ext w w') => toStore_c g e p.B w' (hB.ext hx) hsB
  obtain ⟨a1, n1, rfl⟩ := hA.1.form
  obtain ⟨a2, n2, rfl⟩ := hA.2.form
  obtain ⟨a3, n3, rfl⟩ := hB.1.form
  obtain ⟨a4, n4, rfl⟩ := hB.2.form
  go_enter Try.func10, Try.ntmps10
  go_wp2_with fail
  refine (hc1 _ (ext_alloc (ext_alloc (ext_alloc (ext_refl _) _) _) _)).mono ?_; rintro e1 w1 ⟨v1, v2, L, rfl, hx1, hO1, hn1, hb1⟩
  obtain ⟨b1, m1, c1, b2, m2, c2, rfl, rfl⟩ := hO1.forms
  have G0 := keep_ext hx1 (hg_alloc (hg_alloc (hg_new (b := w.heap.size) rfl)))
  have G1 := keep_ext hx1 (hg_alloc (hg_new (b := w.heap.size + 1) (by simp)))
  have G2 := keep_ext hx1 (hg_new (b := w.heap.size + 1 + 1) (by simp))
  have X1 : Ext w w1 := ext_trans (ext_alloc (ext_alloc (ext_alloc (ext_refl w) _) _) _) hx1
  simp only [World.alloc, Array.size_push] at hb1
  have hs1 := hx1.size
  simp at hs1
  have HO1 := Lib.hid hO1
  have HN1 := Lib.hid hn1
  have HB1 : Hid (∀ b ∈ L, w.heap.size + 3 ≤ b) := Lib.hid (fun b hb => by have := hb1 b hb; omega)
  have HL1 := Lib.hid hO1.lt
  clear hc1 hx1 hO1 hn1 hb1
  obtain ⟨g0, gf0⟩ := cellsK G0
  obtain ⟨g2, gf2⟩ := cellsK G2
  go_wp2_with fail
  refine (hc2 _ (by ((repeat (first | with_reducible (refine ext_set2 ?_ ?_); focus (first | exact Nat.le_refl _ | (dsimp only; omega) | (simp; omega)) | with_reducible refine ext_alloc2 ?_)); with_reducible exact X1))).mono ?_; rintro e2 w2 ⟨v3, v4, K, rfl, hx2, hO2, hn2, hb2⟩
  obtain ⟨b3, m3, c3, b4, m4, c4, rfl, rfl⟩ := hO2.forms
  have X2 : Ext w w2 := ext_trans (by ((repeat (first | with_reducible (refine ext_set2 ?_ ?_); focus (first | exact Nat.le_refl _ | (dsimp only; omega) | (simp; omega)) | with_reducible refine ext_alloc2 ?_)); with_reducible exact X1)) hx2
  have HO2 := Lib.hid hO2
  have HN2 := Lib.hid hn2
  have hO1' : OwnStore w2 (.slice b1 m1 c1) (.slice b2 m2 c2) p.A L := (HO1.out.keep (fun b hb => by have := HB1.out b hb; rw [setCell_other (by omega), setCell_other (by omega)])).ext hx2
  have HO1' := Lib.hid hO1'
  have HB2 : Hid (∀ b ∈ K, w1.heap.size ≤ b) := Lib.hid (fun b hb => by have := hb2 b hb; rw [setCell_size, setCell_size] at this; exact this)
  replace G0 := keep_ext hx2 (hg_set (by dsimp only; omega) (hg_set (by dsimp only; omega) G0))
  replace G1 := keep_ext hx2 (hg_set (by dsimp only; omega) (hg_set (by dsimp only; omega) G1))
  replace G2 := keep_ext hx2 (hg_here (hg_here G2))
  clear hc2 hO2 hO1' HO1 hb2 X1 hx2 hn2 g0 gf0 g2 gf2
  obtain ⟨g0, gf0⟩ := cellsK G0
  obtain ⟨g1, gf1⟩ := cellsK G1
  obtain ⟨g2, gf2⟩ := cellsK G2
  go_wp2_with fail
  refine bodyPost_ret (v := .agg #[.slice b1 m1 c1, .slice b2 m2 c2, .slice b3 m3 c3, .slice b4 m4 c4, .int .i64 p.lost]) (by simp [results, Try.results10, go_sem, g1, gf1, g2, gf2]) rfl ⟨_, _, _, _, L, K, rfl, ?_, ?_, ?_, ?_, ?_⟩
  · ((repeat (first | with_reducible (refine ext_set2 ?_ ?_); focus (first | exact Nat.le_refl _ | (dsimp only; omega) | (simp; omega)) | with_reducible refine ext_alloc2 ?_)); with_reducible exact X2)
  · refine HO1'.out.keep fun b hb => ?_
    have := HB1.out b hb
    iterate 8 rw [setCell_other (by omega)]
  · refine HO2.out.keep fun b hb => ?_
    have := HB2.out b hb
    iterate 8 rw [setCell_other (by omega)]
  · rw [List.nodup_append]
    refine ⟨HN1.out, HN2.out, fun x hx y hy e => ?_⟩
    have := HL1.out x hx; have := HB2.out y hy; omega
  · intro b hb
    rcases List.mem_append.1 hb with hb | hb
    · have := HB1.out b hb; omega
    · have := HB2.out b hb; omega
end Go.Bu
