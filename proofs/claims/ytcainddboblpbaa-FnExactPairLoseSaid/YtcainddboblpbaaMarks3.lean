/- The laws' marks in memory of any shape: rows of numbers, arguments, results. -/
import Derived.Test.YtcainddboblpbaaMarks2
import Derived.Test.YtcainddboblpbaaSpecAll
set_option linter.unusedVariables false
set_option linter.unusedSimpArgs false
namespace Go.Bu
open Go Go.RowKit Go.Plan Go.Proofs

set_option maxHeartbeats 1000000 in
theorem markBlockS_g (v : Value) (f : List Block) (B : Nat) (bs : List Nat) (x : Int) (w : World) (h : OwnFlash w v f B bs) (hnd : (B :: bs).Nodup) (hn : f.length ≤ 1048576) (h4 : ∀ b ∈ f, b.pages.length ≤ 1048576) (hx0 : 0 ≤ x) (hx1 : x ≤ 6000000000000) :
    Calls Try.prog 60 #[v, .int .i64 x] w (fun e w' => ∃ k, e = .returned (.int .i64 k) ∧ x ≤ k ∧ k ≤ x + f.length * 5242881 ∧ Chg (B :: bs) w w') := by
  obtain ⟨rows, ⟨T, o, cap, rfl, hA⟩, hr, hb, hP⟩ := h
  rw [hr]
  have hBn : B ∉ bs := (List.nodup_cons.1 hnd).1
  have hbn : bs.Nodup := (List.nodup_cons.1 hnd).2
  have H4 := Lib.hid h4; clear h4
  have HP : Hid (PagesAt w rows f bs) := Lib.hid hP
  clear hP
  go_enter Try.func60, Try.ntmps60
  go_wp2
  go_loopw [1, 5] (fun y i wr => ∃ (k : Nat) (m : Int) (rs : List (Value × Int)) (gs : List Block), k ≤ f.length ∧ i = .int .i64 k ∧ y = .int .i64 m ∧ x ≤ m ∧ m ≤ x + k * 5242881 ∧ Chg (B :: bs) w wr ∧ OwnAt 2 rowC T wr B o rs ∧ rs.length = f.length ∧ gs.length = f.length ∧ Hid (PagesAt wr rs gs bs) ∧ Hid (∀ b ∈ gs, b.pages.length ≤ 1048576)) (fun _ i _ => f.length - (intOf i).toNat)
  case atStart => exact ⟨0, x, rows, f, Nat.zero_le _, rfl, rfl, by omega, by omega, Chg.refl _ _, hA, hr, rfl, HP, H4⟩
  case round =>
    obtain ⟨k, m, rs, gs, hk, rfl, rfl, hm0, hm1, hC, hO, hl, hl2, HPA, HGa⟩ := hrel
    by_cases hlt : k < f.length
    · obtain ⟨e0, e1⟩ := hO.two (k := k) (by omega)
      obtain ⟨hw, hpg⟩ := HPA.out k gs[k] rs[k] bs[k] (List.getElem?_eq_getElem (by omega)) (List.getElem?_eq_getElem (by omega)) (List.getElem?_eq_getElem (by omega))
      have hp4 : gs[k].pages.length ≤ 1048576 := HGa.out _ (List.getElem_mem _)
      go_wp2_with fail
      refine (markPageS_c _ gs[k].pages bs[k] _ _ hpg hp4 (by omega) (by omega)).mono ?_; rintro e1 w1 ⟨rfl, hc1, qs, hO1, hl1, hq1⟩
      clear hq1
      have hBk : B ≠ bs[k] := fun e => hBn (by rw [e]; exact List.getElem_mem _)
      have hA1 := hO.chg hc1 (by simpa using hBk)
      obtain ⟨e0, e1⟩ := hA1.two (k := k) (by omega)
      have ef := hA1.frozen
      generalize hm' : m + 5 * (gs[k].pages.length : Int) = m' at *
      have hm2 : m ≤ m' ∧ m' ≤ m + 5242880 := by omega
      have hS := OwnAt.set1 (n := 2) (enc := rowC) (fun _ => rfl) hA1 (k := k) (by omega) (j := 1) (by omega) (.int .i64 m') (rs[k].1, m') rfl
      have HS := Lib.hid hS; clear hS
      have hC1 : Chg (B :: bs) w w1 := hC.trans (hc1.mono (by simp))
      have hBm : ∀ b ∈ bs, b ≠ B := fun b hb e => hBn (by rw [← e]; exact hb)
      have HPN : Hid (∀ u : Value, PagesAt (w1.setCell ⟨B, o + k * 2 + 1, none⟩ u) (rs.set k (rs[k].1, m')) (gs.set k ⟨qs, m'⟩) bs) := Lib.hid (by
        intro u i y r b hy hr hbi
        have hbb := hBm b (List.mem_of_getElem? hbi)
        by_cases hik : i = k
        · subst hik
          rw [List.getElem?_set_self (by omega)] at hy hr
          obtain rfl := Option.some.inj hy
          obtain rfl := Option.some.inj hr
          rw [List.getElem?_eq_getElem (by omega)] at hbi
          obtain rfl := Option.some.inj hbi
          exact ⟨rfl, hO1.keep (setCell_other hbb)⟩
        · rw [List.getElem?_set_ne (Ne.symm hik)] at hy hr
          obtain ⟨h1, h2⟩ := HPA.out i y r b hy hr hbi
          refine ⟨h1, (h2.chg hc1 ?_).keep (setCell_other hbb)⟩
          simp only [List.mem_singleton]
          rintro rfl
          have hbl := (List.getElem?_eq_some_iff.1 hbi).1
          exact hik (nodup_inj hbn hbi (List.getElem?_eq_getElem (by omega))))
      have HGb : Hid (∀ b ∈ gs.set k ⟨qs, m'⟩, b.pages.length ≤ 1048576) := Lib.hid (fun b hb => by
        rcases List.mem_or_eq_of_mem_set hb with hb | rfl
        · exact HGa.out b hb
        · dsimp only; omega)
      clear HPA HGa hA1 hO hc1 hO1 hpg hw
      go_wp2_with fail
      go_roundw
      case rel => exact ⟨k + 1, _, _, _, by omega, by go_num, rfl, by omega, by omega, hC1.set (.inl (by simp)) _, HS.out, by rw [List.length_set]; exact hl, by rw [List.length_set]; exact hl2, HPN.out _, HGb⟩
      case measure => simp [intOf]; omega
    · obtain rfl : k = f.length := by omega
      go_wp2
      go_ret
      exact ⟨m, rfl, hm0, hm1, hC⟩

theorem markStore_g (f d : Value) (s : Store) (L : List Nat) (x : Int) (w : World) (h : OwnStore w f d s L) (hnd : L.Nodup) (hs : Small s) (hx0 : 0 ≤ x) (hx1 : x ≤ 6000000000000) :
    Calls Try.prog 35 #[.agg #[f, d], .int .i64 x] w (fun e w' => ∃ k, e = .returned (.int .i64 k) ∧ x ≤ k ∧ k ≤ x + 5497561000000 ∧ Chg L w w') := by
  obtain ⟨B, bs, D, rfl, hF, hD⟩ := h
  have hlt := hF.lt
  have hDn : D ∉ B :: bs := by
    rw [List.nodup_append] at hnd
    exact fun hm => hnd.2.2 D hm D (by simp) rfl
  have hn1 : (B :: bs).Nodup := (List.nodup_append.1 hnd).1
  have hs1 := hs.1
  have hs3 := hs.2.2
  go_enter Try.func35, Try.ntmps35
  go_wp2_with fail
  refine (markBlockS_g f s.flash B bs x _ (hF.ext (ext_alloc (ext_refl _) _)) hn1 hs1 hs.2.1 hx0 (by omega)).mono ?_; rintro e1 w1 ⟨k, rfl, hk0, hk1, hc1⟩
  have G0 := hc1.keep (alloc_get_new rfl) (fun hm => absurd (hlt _ hm) (Nat.lt_irrefl _))
  have hD1 : OwnInts w1 d s.disk D := (hD.ext (ext_alloc (ext_refl _) _)).chg hc1 hDn
  have g0 : w1.cell? ⟨w.heap.size, 0, none⟩ = some f := by rw [cell_block G0]; rfl
  have g1 : w1.cell? ⟨w.heap.size, 1, none⟩ = some d := by rw [cell_block G0]; rfl
  have C1 : Chg (B :: bs ++ [D]) w w1 := ((Chg.refl _ w).alloc _).trans (hc1.mono fun b hb => List.mem_append_left _ hb)
  clear hc1 G0
  go_wp2_with fail
  refine (markIntS_c d s.disk D _ _ hD1 hs3 (by omega) (by omega)).mono ?_; rintro e2 w2 ⟨rfl, hc2, ds, hO2, hl2, hq2⟩
  go_wp2_with fail
  go_ret
  exact ⟨_, rfl, by omega, by omega, C1.trans (hc2.mono (by simp))⟩

theorem markPair_g (f d g e : Value) (n : Int) (s t : Store) (L K : List Nat) (w : World) (h : OwnStore w f d s L) (h2 : OwnStore w g e t K) (hnd : (L ++ K).Nodup) (hs : Small s) (ht : Small t) :
    Calls Try.prog 14 #[.agg #[f, d, g, e, .int .i64 n], .int .i64 1] w (fun r w' => ∃ k, r = .returned (.int .i64 k) ∧ 0 ≤ k ∧ Chg (L ++ K) w w') := by
  have hlt := h.lt
  have hap : ∀ b ∈ K, b ∉ L := fun b hb hm => (List.nodup_append.1 hnd).2.2 b hm b hb rfl
  go_enter Try.func14, Try.ntmps14
  go_wp2_with fail
  refine (markStore_g f d s L 1 _ (h.ext (ext_alloc (ext_refl _) _)) (List.nodup_append.1 hnd).1 hs (by omega) (by omega)).mono ?_; rintro e1 w1 ⟨k, rfl, hk0, hk1, hc1⟩
  have G0 := hc1.keep (alloc_get_new rfl) (fun hm => absurd (hlt _ hm) (Nat.lt_irrefl _))
  have g2 : w1.cell? ⟨w.heap.size, 2, none⟩ = some g := by rw [cell_block G0]; rfl
  have g3 : w1.cell? ⟨w.heap.size, 3, none⟩ = some e := by rw [cell_block G0]; rfl
  have hD1 : OwnStore w1 g e t K := (h2.ext (ext_alloc (ext_refl _) _)).chg hc1 hap
  have C1 : Chg (L ++ K) w w1 := ((Chg.refl _ w).alloc _).trans (hc1.mono fun b hb => List.mem_append_left _ hb)
  clear hc1 G0
  go_wp2_with fail
  refine (markStore_g g e t K _ _ hD1 (List.nodup_append.1 hnd).2.1 ht (by omega) (by omega)).mono ?_; rintro e2 w2 ⟨k2, rfl, hk2, hk3, hc2⟩
  go_wp2_with fail
  go_ret
  exact ⟨_, rfl, by omega, C1.trans (hc2.mono fun b hb => List.mem_append_right _ hb)⟩

/-- a row of numbers of the call's own, or none: its blocks named -/
def IntsL (w : World) (v : Value) (xs : List Int) (L : List Nat) : Prop := (v = .slice none 0 0 ∧ xs = [] ∧ L = []) ∨ ∃ B, L = [B] ∧ OwnInts w v xs B
theorem IntsOut.l {base : Nat} {w : World} {v : Value} {xs : List Int} (h : IntsOut base w v xs) : ∃ L, IntsL w v xs L ∧ ∀ b ∈ L, base ≤ b := by
  rcases h with ⟨h1, h2⟩ | ⟨B, h1, h2⟩
  · exact ⟨[], .inl ⟨h1, h2, rfl⟩, fun b hb => by cases hb⟩
  · exact ⟨[B], .inr ⟨B, rfl, h2⟩, fun b hb => by rw [List.mem_singleton] at hb; omega⟩
theorem IntsL.ints {w : World} {v : Value} {xs : List Int} {L : List Nat} (h : IntsL w v xs L) : Ints (Old w) w v xs := by
  rcases h with ⟨rfl, rfl, _⟩ | ⟨B, _, h⟩
  · exact ⟨_, _, rfl, fun i x hi => by cases hi⟩
  · exact h.old
theorem IntsL.lt {w : World} {v : Value} {xs : List Int} {L : List Nat} (h : IntsL w v xs L) : ∀ b ∈ L, b < w.heap.size := by
  rcases h with ⟨_, _, rfl⟩ | ⟨B, rfl, h⟩
  · intro b hb; cases hb
  · intro b hb; rw [List.mem_singleton] at hb; subst hb; exact h.lt
theorem IntsL.ext {w w' : World} {v : Value} {xs : List Int} {L : List Nat} (h : IntsL w v xs L) (hx : Ext w w') : IntsL w' v xs L := h.imp id fun ⟨B, h1, h2⟩ => ⟨B, h1, h2.ext hx⟩
theorem IntsL.chg {w w' : World} {v : Value} {xs : List Int} {L M : List Nat} (h : IntsL w v xs L) (hx : Chg M w w') (hm : ∀ b ∈ L, b ∉ M) : IntsL w' v xs L := by
  rcases h with h | ⟨B, rfl, h⟩
  · exact .inl h
  · exact .inr ⟨B, rfl, h.chg hx (hm B (by simp))⟩
/-- numbers that were marked from x on -/
def MarkedI (x : Int) (xs : List Int) : Prop := ∀ i : Nat, i < xs.length → xs[i]? = some (x + i)

theorem markIntS_l (v : Value) (ps : List Int) (L : List Nat) (w : World) (h : IntsL w v ps L) (hn : ps.length ≤ 1048576) :
    Calls Try.prog 15 #[v, .int .i64 1] w (fun e w' => e = .returned (.int .i64 (1 + ps.length)) ∧ Chg L w w' ∧ ∃ qs, IntsL w' v qs L ∧ qs.length = ps.length ∧ MarkedI 1 qs) := by
  rcases h with ⟨rfl, rfl, rfl⟩ | ⟨B, rfl, h⟩
  · go_enter Try.func15, Try.ntmps15
    go_wp2
    go_loop [1, 5] (fun y i => i = .int .i64 0 ∧ y = .int .i64 1) (fun _ i => 0)
    case atStart => exact ⟨rfl, rfl⟩
    case round =>
      obtain ⟨rfl, rfl⟩ := hrel
      go_wp2
      go_ret
      exact ⟨rfl, Chg.refl _ _, [], .inl ⟨rfl, rfl, rfl⟩, rfl, fun i hi => by simp at hi⟩
  · refine (markIntS_c v ps B 1 w h hn (by omega) (by omega)).mono ?_
    rintro e w' ⟨rfl, hc, qs, h1, h2, h3⟩
    exact ⟨rfl, hc, qs, .inr ⟨B, rfl, h1⟩, h2, fun i hi => h3 i (by omega)⟩
theorem heldIntS_l (v : Value) (ps : List Int) (L : List Nat) (w : World) (h : IntsL w v ps L) (hn : ps.length ≤ 1048576) (hm : MarkedI 1 ps) :
    Calls Try.prog 16 #[v, .int .i64 1] w (Ret w (.int .i64 (1 + ps.length))) := by
  rcases h with ⟨rfl, rfl, rfl⟩ | ⟨B, rfl, h⟩
  · go_enter Try.func16, Try.ntmps16
    go_wp2
    go_loop [1, 5] (fun y i => i = .int .i64 0 ∧ y = .int .i64 1) (fun _ i => 0)
    case atStart => exact ⟨rfl, rfl⟩
    case round =>
      obtain ⟨rfl, rfl⟩ := hrel
      go_wp2
      go_ret
      exact ⟨rfl, ext_refl _⟩
  · exact heldIntS_c v ps B 1 w h hn (by omega) (by omega) hm
end Go.Bu
