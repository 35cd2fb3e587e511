/- New flashes of the program's side, new stores and pairs of both. -/
import Derived.Test.YtcainddboblpbaaNew
set_option linter.unusedVariables false
set_option linter.unusedSimpArgs false
namespace Go.Bu
open Go Go.RowKit Go.Plan Go.Proofs

theorem cells5 {w : World} {B T : Nat} {c0 c1 c2 c3 c4 : Value} (h : w.heap[B]? = some (.cells #[c0, c1, c2, c3, c4] T (0, 0))) : w.cell? ⟨B, 0, none⟩ = some c0 ∧ w.cell? ⟨B, 1, none⟩ = some c1 ∧ w.cell? ⟨B, 2, none⟩ = some c2 ∧ w.cell? ⟨B, 3, none⟩ = some c3 ∧ w.cell? ⟨B, 4, none⟩ = some c4 ∧ ∀ j, w.frozen? ⟨B, j, none⟩ = false :=
  ⟨by rw [cell_block h]; rfl, by rw [cell_block h]; rfl, by rw [cell_block h]; rfl, by rw [cell_block h]; rfl, by rw [cell_block h]; rfl, frozen_block h⟩

theorem OwnAt.there {α : Type} {n : Nat} {enc : α → List Value} {T : TypeId} {w : World} {B o : Nat} {xs : List α} (hn : ∀ x, (enc x).length = n) (h : OwnAt n enc T w B o xs) {k : Nat} (hk : k < xs.length) : w.there B (o + k * n) n := by
  intro j hj
  have hx := h.cell (List.getElem?_eq_getElem hk) (j := j) (u := (enc xs[k])[j]'(by rw [hn]; exact hj)) (List.getElem?_eq_getElem _)
  rw [hx, h.frozen]; exact ⟨rfl, rfl⟩

set_option maxHeartbeats 1000000 in
theorem fill_c (B T : Nat) (ps : List Page) (p : Page) (w : World) (h : OwnAt 5 pageC T w B 0 ps) (hl : ps.length = 4) :
    Calls Try.prog 105 #[.pointer (some ⟨B, 0, none⟩), pageA p] w (fun e w' => e = .returned (.tuple #[]) ∧ Chg [B] w w' ∧ OwnAt 5 pageC T w' B 0 [p, p, p, p]) := by
  have hBw := h.lt
  go_enter Try.func105, Try.ntmps105
  go_wp2
  go_loopw [5] (fun i wr => ∃ (k : Nat) (qs : List Page), k ≤ 4 ∧ i = .int .i64 k ∧ Chg [B] w wr ∧ OwnAt 5 pageC T wr B 0 qs ∧ qs.length = 4 ∧ (∃ T', wr.heap[w.heap.size]? = some (.cells (pageC p).toArray T' (0, 0))) ∧ ∀ i : Nat, i < k → qs[i]? = some p) (fun i _ => 4 - (intOf i).toNat)
  case atStart => exact ⟨0, ps, by omega, rfl, (Chg.refl _ _).alloc _, h.ext (ext_alloc (ext_refl _) _), hl, ⟨_, alloc_get_new rfl⟩, fun i hi => absurd hi (Nat.not_lt_zero _)⟩
  case round =>
    obtain ⟨k, qs, hk, rfl, hC, hO, hl, ⟨T', hbox⟩, hq⟩ := hrel
    have HQ := Lib.hid hq; clear hq
    by_cases hlt : k < 4
    · go_wp2_with fail
      refine wp_region_ext [] [0, 1, 2, 3, 4, 5] [] [6] (by kernel_rfl) (by kernel_rfl) ?late ?_
      case late => exact fun f hf => absurd hf List.not_mem_nil
      iterate 2
        refine Rob.y (v := ?_) rfl rfl (fun w1 hx hH => ?_) ?_; rotate_left
        · go_simp; first | done | rfl | exact (Bool.not_not _).symm
        simp only [Act.put, List.setIfInBounds_toArray, List.set_cons_succ, List.set_cons_zero]
      iterate 2
        refine Rob.y (v := ?_) rfl rfl (fun w1 hx hH => ?_) ?_; rotate_left
        · (obtain ⟨p0, p1, p2, p3, p4, pf⟩ := cells5 (keep_ext hx hbox)); go_simp; first | done | rfl
        simp only [Act.put, List.setIfInBounds_toArray, List.set_cons_succ, List.set_cons_zero]
      refine Rob.y (v := ?_) rfl rfl (fun w1 hx hH => ?_) ?_; rotate_left
      · go_simp; first | done | rfl | exact (Bool.not_not _).symm
      simp only [Act.put, List.setIfInBounds_toArray, List.set_cons_succ, List.set_cons_zero]
      refine Rob.y (v := ?_) rfl rfl (fun w1 hx hH => ?_) ?_; rotate_left
      · (obtain ⟨p0, p1, p2, p3, p4, pf⟩ := cells5 (keep_ext hx hbox)); go_simp; first | done | rfl
      simp only [Act.put, List.setIfInBounds_toArray, List.set_cons_succ, List.set_cons_zero]
      refine fin_tail (fun w1 hx1 _ => ?_)
      simp only [dstOf, List.getElem?_cons_succ, List.getElem?_cons_zero, Option.bind_some, Act.put, List.setIfInBounds_toArray, List.set_cons_succ, List.set_cons_zero, List.filterMap_cons, List.filterMap_nil]
      have hO1 := hO.ext hx1
      have hth := OwnAt.there (n := 5) (enc := pageC) (fun _ => rfl) hO1 (k := k) (by omega)
      have hS := OwnAt.set (n := 5) (enc := pageC) (fun _ => rfl) (by omega) hO1 (k := k) (by omega) p
      rw [Nat.zero_add] at hth hS
      have hC1 : Chg [B] w (setAll w1 B (k * 5) (pageC p)) := (((((hC.trans (Chg.of_ext hx1)).set (.inl (by simp)) _).set (.inl (by simp)) _).set (.inl (by simp)) _).set (.inl (by simp)) _).set (.inl (by simp)) _
      have hB1 : (setAll w1 B (k * 5) (pageC p)).heap[w.heap.size]? = some (.cells (pageC p).toArray T' (0, 0)) := by rw [setAll_other B (by omega)]; exact keep_ext hx1 hbox
      refine wpList_store_mid rfl 99 _ _ rfl B (k * 5) (pageC p).toArray rfl rfl hth (by kernel_rfl) (by simp [Value.oneCell']) ?_
      refine wpList_nil ?_
      have HS := Lib.hid hS; have HC := Lib.hid hC1; have HB := Lib.hid hB1
      clear hS hC1 hB1 hO1 hth
      change Exit.inBlock _ _ _ _ (setAll w1 B (k * 5) (pageC p))
      generalize setAll w1 B (k * 5) (pageC p) = w2 at *
      go_wp2
      refine ⟨⟨k + 1, qs.set k p, by omega, by go_num, HC.out, HS.out, by rw [List.length_set]; exact hl, ⟨T', HB.out⟩, fun i hi => ?_⟩, by simp [intOf]; omega⟩
      by_cases hik : i = k
      · subst hik; rw [List.getElem?_set_self (by omega)]
      · rw [List.getElem?_set_ne (Ne.symm hik)]; exact HQ.out i (by omega)
    · obtain rfl : k = 4 := by omega
      go_wp2
      have hqs : qs = [p, p, p, p] := by
        match qs, hl with
        | [a, b, c, d], _ =>
          have h0 := HQ.out 0 (by omega); have h1 := HQ.out 1 (by omega); have h2 := HQ.out 2 (by omega); have h3 := HQ.out 3 (by omega)
          simp at h0 h1 h2 h3
          subst h0 h1 h2 h3
          rfl
      go_end0
      exact ⟨rfl, hC, by rw [← hqs]; exact hO⟩

set_option maxHeartbeats 1000000 in
theorem pagesOf_c (p : Page) (w : World) : Calls Try.prog 86 #[pageA p] w (fun e w' => ∃ v B, e = .returned v ∧ Ext w w' ∧ w.heap.size ≤ B ∧ OwnPages w' v [p, p, p, p] B) := by
  have hZ : madeCells #[.int .i64 0, .int .i64 0, .int .i64 0, .int .i64 0, .int .i64 0] 20 = #[.int .i64 0, .int .i64 0, .int .i64 0, .int .i64 0, .int .i64 0, .int .i64 0, .int .i64 0, .int .i64 0, .int .i64 0, .int .i64 0, .int .i64 0, .int .i64 0, .int .i64 0, .int .i64 0, .int .i64 0, .int .i64 0, .int .i64 0, .int .i64 0, .int .i64 0, .int .i64 0] := by kernel_rfl
  have HZ := Lib.hid hZ; clear hZ
  go_enter Try.func86, Try.ntmps86
  go_wp2_with fail
  refine (fill_c (w.heap.size + 1) _ newBlock.pages p _ (by
    obtain ⟨o, cap, hv, hA⟩ := OwnT.zeros (w := (w.alloc (.cells (pageC p).toArray 99)).alloc (.cells (madeCells #[.int .i64 0, .int .i64 0, .int .i64 0, .int .i64 0, .int .i64 0] 20) 136)) (B := w.heap.size + 1) (T := 136) (alloc_get_new (by simp))
    injection hv with h1 h2 h3
    injection h1 with h1
    injection h1 with h1 h4 h5
    subst h4
    rw [HZ.out] at hA
    exact hA) rfl).mono ?_; rintro e1 w1 ⟨rfl, hc1, hO⟩
  have X1 : Ext w w1 := hc1.ext (ext_alloc (ext_alloc (ext_refl _) _) _) (by simp)
  have HO := Lib.hid hO
  clear hc1 hO
  go_wp2_with fail
  refine bodyPost_ret (v := .slice (some ⟨w.heap.size + 1, 0, none⟩) 4 4) (by simp [results, Try.results86, go_sem]) rfl ⟨_, w.heap.size + 1, rfl, X1, by omega, _, 0, 0, rfl, HO.out⟩

set_option maxHeartbeats 1000000 in
theorem implFlashNew_c (w : World) : Calls Try.prog 66 #[] w (fun e w' => ∃ v B bs, e = .returned v ∧ Ext w w' ∧ OwnFlash w' v newFlash B bs ∧ (B :: bs).Nodup ∧ ∀ b ∈ B :: bs, w.heap.size ≤ b) := by
  have hmk : ∀ w : World, (Instr.makeSlice 30 (.int .i64 4) (.int .i64 4)).run Try.prog w = .ok (.slice (some ⟨w.heap.size, 0, none⟩) 4 4) (w.alloc (.cells #[.slice none 0 0, .int .i64 0, .slice none 0 0, .int .i64 0, .slice none 0 0, .int .i64 0, .slice none 0 0, .int .i64 0] 106)) := fun w => by kernel_rfl
  have h0 : ∀ w : World, OwnAt 2 rowC 106 (w.alloc (.cells #[.slice none 0 0, .int .i64 0, .slice none 0 0, .int .i64 0, .slice none 0 0, .int .i64 0, .slice none 0 0, .int .i64 0] 106)) w.heap.size 0 [(.slice none 0 0, 0), (.slice none 0 0, 0), (.slice none 0 0, 0), (.slice none 0 0, 0)] := by
    intro w
    refine ⟨_, alloc_get_new rfl, fun i x hx j u hu => ?_⟩
    have hi : i < 4 := (List.getElem?_eq_some_iff.1 hx).1
    have hj : j < 2 := by
      have := (List.getElem?_eq_some_iff.1 hu).1
      simpa using this
    rcases (show i = 0 ∨ i = 1 ∨ i = 2 ∨ i = 3 by omega) with rfl | rfl | rfl | rfl <;> (simp at hx; subst hx; rcases (show j = 0 ∨ j = 1 by omega) with rfl | rfl <;> (simp at hu; subst hu; rfl))
  have H0 := Lib.hid h0; clear h0
  go_enter Try.func66, Try.ntmps66
  go_wp2
  go_loopw [6] (fun i wr => ∃ (k : Nat) (rows : List (Value × Int)) (bs : List Nat), k ≤ 4 ∧ i = .int .i64 k ∧ Ext w wr ∧ OwnAt 2 rowC 106 wr w.heap.size 0 rows ∧ rows.length = 4 ∧ bs.length = k ∧ bs.Nodup ∧ w.heap.size ∉ bs ∧ (∀ r ∈ rows, r.2 = 0) ∧
    ∀ (i : Nat) r b, rows[i]? = some r → bs[i]? = some b → r.2 = 0 ∧ OwnPages wr r.1 newBlock.pages b ∧ w.heap.size ≤ b) (fun i _ => 4 - (intOf i).toNat)
  case atStart => exact ⟨0, _, [], by omega, rfl, ext_alloc (ext_refl _) _, H0.out w, rfl, rfl, List.nodup_nil, by simp, by simp, fun i r b h h2 => by simp at h2⟩
  case round =>
    obtain ⟨k, rows, bs, hk, rfl, hX, hA, hrl, hbl, hnd, hnb, hz, hP⟩ := hrel
    have HZ := Lib.hid hz; clear hz
    have HP := Lib.hid hP; clear hP
    by_cases hlt : k < 4
    · go_wp2_with fail
      refine (pagesOf_c zPage _).mono ?_; rintro e1 w1 ⟨pv, b1, rfl, hx1, hb1, hO1⟩
      obtain ⟨o1, cap1, hpv⟩ : ∃ o cap, pv = .slice (some ⟨b1, o, none⟩) 4 cap := by obtain ⟨T1, o1, cap1, hv, _⟩ := hO1; exact ⟨o1, _, hv⟩
      subst hpv
      have hA1 := hA.ext hx1
      obtain ⟨c0, c1⟩ := hA1.two (k := k) (by omega)
      have ef := hA1.frozen
      simp only [Nat.zero_add] at c0 c1
      have hS := OwnAt.set1 (n := 2) (enc := rowC) (fun _ => rfl) hA1 (k := k) (by omega) (j := 0) (by omega) (.slice (some ⟨b1, o1, none⟩) 4 cap1) (.slice (some ⟨b1, o1, none⟩) 4 cap1, rows[k].2) rfl
      simp only [Nat.zero_add, Nat.add_zero] at hS
      have HS := Lib.hid hS; clear hS
      have hAl : w.heap.size < wr.heap.size := hA.lt
      have X1 : Ext w w1 := ext_trans hX hx1
      have hbl1 := hO1.lt
      have HO := Lib.hid hO1; clear hO1
      have h0 : rows[k].2 = 0 := HZ.out _ (List.getElem_mem _)
      go_wp2_with fail
      refine ⟨⟨k + 1, _, bs ++ [b1], by omega, by go_num, ext_set X1 (Nat.le_refl _) _, HS.out, by rw [List.length_set]; exact hrl, by simp [hbl], ?_, ?_, fun r hr => ?_, fun i r b hr hb => ?_⟩, by simp [intOf]; omega⟩
      · rw [List.nodup_append]
        refine ⟨hnd, by simp, fun a ha b hb => ?_⟩
        rw [List.mem_singleton] at hb
        subst hb
        obtain ⟨i, hi, rfl⟩ := List.mem_iff_getElem.1 ha
        have := (HP.out i rows[i] bs[i] (List.getElem?_eq_getElem (by omega)) (List.getElem?_eq_getElem hi)).2.1.lt
        omega
      · simp only [List.mem_append, List.mem_singleton, not_or]
        exact ⟨hnb, by omega⟩
      · rcases List.mem_or_eq_of_mem_set hr with hr | rfl
        · exact HZ.out r hr
        · exact h0
      · by_cases hik : i < k
        · rw [List.getElem?_append_left (by omega)] at hb
          rw [List.getElem?_set_ne (by omega)] at hr
          obtain ⟨h1, h2, h3⟩ := HP.out i r b hr hb
          exact ⟨h1, (h2.ext hx1).keep (setCell_other fun e => hnb (by rw [← e]; exact List.mem_of_getElem? hb)), h3⟩
        · have hi : i = k := by
            have := (List.getElem?_eq_some_iff.1 hb).1
            simp at this; omega
          subst hi
          rw [List.getElem?_append_right (by omega)] at hb
          rw [List.getElem?_set_self (by omega)] at hr
          simp [hbl] at hb
          obtain rfl := Option.some.inj hr
          subst hb
          exact ⟨h0, HO.out.keep (setCell_other (by omega)), by omega⟩
    · obtain rfl : k = 4 := by omega
      go_wp2
      refine bodyPost_ret (v := .slice (some ⟨w.heap.size, 0, none⟩) 4 4) (by simp [results, Try.results66, go_sem]) rfl ⟨_, w.heap.size, bs, rfl, hX, ⟨rows, ⟨_, 0, 0, by rw [hrl], hA⟩, hrl, hbl, fun i x r b hx hr hb => ?_⟩, List.nodup_cons.2 ⟨hnb, hnd⟩, fun b hb => ?_⟩
      · obtain ⟨h1, h2, h3⟩ := HP.out i r b hr hb
        have hxb : x = newBlock := by
          have hi : i < 4 := (List.getElem?_eq_some_iff.1 hx).1
          match i, hi with
          | 0, _ => simpa [newFlash] using hx.symm
          | 1, _ => simpa [newFlash] using hx.symm
          | 2, _ => simpa [newFlash] using hx.symm
          | 3, _ => simpa [newFlash] using hx.symm
        subst hxb
        exact ⟨h1, h2⟩
      · rcases List.mem_cons.1 hb with rfl | hb
        · exact Nat.le_refl _
        · obtain ⟨i, hi, rfl⟩ := List.mem_iff_getElem.1 hb
          exact (HP.out i rows[i] bs[i] (List.getElem?_eq_getElem (by omega)) (List.getElem?_eq_getElem hi)).2.2
end Go.Bu
