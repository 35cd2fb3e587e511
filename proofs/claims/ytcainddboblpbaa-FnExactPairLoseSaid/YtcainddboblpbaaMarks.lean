/- The laws' marks: what they write into a result, and that it is held. -/
import Derived.Test.YtcainddboblpbaaOwn2
set_option linter.unusedVariables false
set_option linter.unusedSimpArgs false
namespace Go.Bu
open Go Go.RowKit Go.Plan Go.Proofs

def mkPage (y : Int) : Page := ⟨y, ⟨y + 1, y + 1 + 1, y + 1 + 1 + 1, y + 1 + 1 + 1 + 1⟩⟩

set_option maxHeartbeats 1000000 in
theorem markPageS_c (v : Value) (ps : List Page) (b : Nat) (x : Int) (w : World) (h : OwnPages w v ps b) (hn : ps.length ≤ 1048576) (hx0 : 0 ≤ x) (hx1 : x ≤ 1152921504606846976) :
    Calls Try.prog 83 #[v, .int .i64 x] w (fun e w' => e = .returned (.int .i64 (x + 5 * ps.length)) ∧ Chg [b] w w' ∧ ∃ qs, OwnPages w' v qs b ∧ qs.length = ps.length ∧ ∀ i : Nat, i < ps.length → qs[i]? = some (mkPage (x + 5 * i))) := by
  obtain ⟨T, o, cap, rfl, hA⟩ := h
  go_enter Try.func83, Try.ntmps83
  go_wp2
  go_loopw [1, 5] (fun y i wr => ∃ (k : Nat) (qs : List Page), k ≤ ps.length ∧ i = .int .i64 k ∧ y = .int .i64 (x + 5 * k) ∧ Chg [b] w wr ∧ OwnAt 5 pageC T wr b o qs ∧ qs.length = ps.length ∧ ∀ i : Nat, i < k → qs[i]? = some (mkPage (x + 5 * i))) (fun _ i _ => ps.length - (intOf i).toNat)
  case atStart => exact ⟨0, ps, Nat.zero_le _, rfl, by simp, Chg.refl _ _, hA, rfl, fun i hi => absurd hi (Nat.not_lt_zero _)⟩
  case round =>
    obtain ⟨k, qs, hk, rfl, rfl, hC, hO, hl, hq⟩ := hrel
    have HQ := Lib.hid hq; clear hq
    by_cases hlt : k < ps.length
    · obtain ⟨e0, e1, e2, e3, e4⟩ := hO.five (k := k) (by omega)
      have ef := hO.frozen
      have hS := OwnAt.set (n := 5) (enc := pageC) (fun _ => rfl) (by omega) hO (k := k) (by omega) (mkPage (x + 5 * k))
      have HS := Lib.hid hS; clear hS
      go_wp2
      refine ⟨⟨k + 1, qs.set k (mkPage (x + 5 * k)), by omega, by go_num, congrArg (Value.int .i64) (by omega), ?_, HS.out, by rw [List.length_set]; exact hl, fun i hi => ?_⟩, by simp [intOf]; omega⟩
      · exact ((((hC.set (.inl (by simp)) _).set (.inl (by simp)) _).set (.inl (by simp)) _).set (.inl (by simp)) _).set (.inl (by simp)) _
      · by_cases hik : i = k
        · subst hik; rw [List.getElem?_set_self (by omega)]
        · rw [List.getElem?_set_ne (Ne.symm hik)]; exact HQ.out i (by omega)
    · obtain rfl : k = ps.length := by omega
      go_wp2
      go_ret
      exact ⟨rfl, hC, qs, ⟨T, o, cap, by rw [hl], hO⟩, hl, HQ.out⟩

set_option maxHeartbeats 1000000 in
theorem heldPageS_c (v : Value) (ps : List Page) (b : Nat) (x : Int) (w : World) (h : OwnPages w v ps b) (hn : ps.length ≤ 1048576) (hx0 : 0 ≤ x) (hx1 : x ≤ 1000000000) (hq : ∀ i : Nat, i < ps.length → ps[i]? = some (mkPage (x + 5 * i))) :
    Calls Try.prog 87 #[v, .int .i64 x] w (Ret w (.int .i64 (x + 5 * ps.length))) := by
  obtain ⟨T, o, cap, rfl, hA⟩ := h
  have HQ := Lib.hid hq; clear hq
  go_enter Try.func87, Try.ntmps87
  go_wp2
  go_loop [1, 5] (fun y i => ∃ (k : Nat), k ≤ ps.length ∧ i = .int .i64 k ∧ y = .int .i64 (x + 5 * k)) (fun _ i => ps.length - (intOf i).toNat)
  case atStart => exact ⟨0, Nat.zero_le _, rfl, by simp⟩
  case round =>
    obtain ⟨k, hk, rfl, rfl⟩ := hrel
    by_cases hlt : k < ps.length
    · obtain ⟨e0, e1, e2, e3, e4⟩ := hA.five (k := k) hlt
      have hp : ps[k] = mkPage (x + 5 * k) := by have := HQ.out k hlt; rw [List.getElem?_eq_getElem hlt] at this; exact Option.some.inj this
      rw [hp] at e0 e1 e2 e3 e4
      simp only [mkPage] at e0 e1 e2 e3 e4
      clear hp
      go_wp2
      refine ⟨⟨k + 1, by omega, by go_num, congrArg (Value.int .i64) (by omega)⟩, by simp [intOf]; omega⟩
    · obtain rfl : k = ps.length := by omega
      go_wp2
      go_ret
      exact ⟨rfl, ext_refl _⟩

def mkPages (y : Int) : List Page := [mkPage y, mkPage (y + 5), mkPage (y + 10), mkPage (y + 15)]
def mkBlock (y : Int) : Block := ⟨mkPages y, y + 20⟩

theorem mkPages_of {qs : List Page} {y : Int} (hl : qs.length = 4) (hq : ∀ i : Nat, i < 4 → qs[i]? = some (mkPage (y + 5 * i))) : qs = mkPages y := by
  match qs, hl with
  | [a, b, c, d], _ =>
    have h0 := hq 0 (by omega); have h1 := hq 1 (by omega); have h2 := hq 2 (by omega); have h3 := hq 3 (by omega)
    simp at h0 h1 h2 h3
    subst h0 h1 h2 h3
    rfl
theorem mkPages_get (y : Int) (i : Nat) (h : i < 4) : (mkPages y)[i]? = some (mkPage (y + 5 * i)) := by
  match i, h with
  | 0, _ => simp [mkPages]
  | 1, _ => rfl
  | 2, _ => rfl
  | 3, _ => rfl

/-- the pages' rows, each its block -/
def PagesAt (w : World) (rows : List (Value × Int)) (gs : List Block) (bs : List Nat) : Prop := ∀ (i : Nat) x r b, gs[i]? = some x → rows[i]? = some r → bs[i]? = some b → r.2 = x.worn ∧ OwnPages w r.1 x.pages b

set_option maxHeartbeats 1000000 in
theorem markBlockS_c (v : Value) (f : List Block) (B : Nat) (bs : List Nat) (x : Int) (w : World) (h : OwnFlash w v f B bs) (hnd : (B :: bs).Nodup) (hn : f.length ≤ 1000) (h4 : ∀ b ∈ f, b.pages.length = 4) (hx0 : 0 ≤ x) (hx1 : x ≤ 1000000) :
    Calls Try.prog 60 #[v, .int .i64 x] w (fun e w' => e = .returned (.int .i64 (x + 21 * f.length)) ∧ Chg (B :: bs) w w' ∧ ∃ gs, OwnFlash w' v gs B bs ∧ gs.length = f.length ∧ ∀ i : Nat, i < f.length → gs[i]? = some (mkBlock (x + 21 * i))) := by
  obtain ⟨rows, ⟨T, o, cap, rfl, hA⟩, hr, hb, hP⟩ := h
  rw [hr]
  have hBn : B ∉ bs := (List.nodup_cons.1 hnd).1
  have hbn : bs.Nodup := (List.nodup_cons.1 hnd).2
  have H4 := Lib.hid h4; clear h4
  have HP : Hid (PagesAt w rows f bs) := Lib.hid hP
  clear hP
  go_enter Try.func60, Try.ntmps60
  go_wp2
  go_loopw [1, 5] (fun y i wr => ∃ (k : Nat) (rs : List (Value × Int)) (gs : List Block), k ≤ f.length ∧ i = .int .i64 k ∧ y = .int .i64 (x + 21 * k) ∧ Chg (B :: bs) w wr ∧ OwnAt 2 rowC T wr B o rs ∧ rs.length = f.length ∧ gs.length = f.length ∧ PagesAt wr rs gs bs ∧ (∀ b ∈ gs, b.pages.length = 4) ∧ ∀ i : Nat, i < k → gs[i]? = some (mkBlock (x + 21 * i))) (fun _ i _ => f.length - (intOf i).toNat)
  case atStart => exact ⟨0, rows, f, Nat.zero_le _, rfl, by simp, Chg.refl _ _, hA, hr, rfl, HP.out, H4.out, fun i hi => absurd hi (Nat.not_lt_zero _)⟩
  case round =>
    obtain ⟨k, rs, gs, hk, rfl, rfl, hC, hO, hl, hl2, hP, hg4, hq⟩ := hrel
    have HQ := Lib.hid hq; clear hq
    have HG := Lib.hid hg4; clear hg4
    by_cases hlt : k < f.length
    · obtain ⟨e0, e1⟩ := hO.two (k := k) (by omega)
      obtain ⟨hw, hpg⟩ := hP k gs[k] rs[k] bs[k] (List.getElem?_eq_getElem (by omega)) (List.getElem?_eq_getElem (by omega)) (List.getElem?_eq_getElem (by omega))
      have HPA := Lib.hid hP; clear hP
      have hp4 : gs[k].pages.length = 4 := HG.out _ (List.getElem_mem _)
      go_wp2_with fail
      refine (markPageS_c _ gs[k].pages bs[k] _ _ hpg (by omega) (by omega) (by omega)).mono ?_; rintro e1 w1 ⟨rfl, hc1, qs, hO1, hl1, hq1⟩
      rw [hp4] at hq1 hl1
      rw [hp4]
      obtain rfl := mkPages_of hl1 hq1
      clear hq1 hl1
      have hBk : B ≠ bs[k] := fun e => hBn (by rw [e]; exact List.getElem_mem _)
      have hA1 := hO.chg hc1 (by simpa using hBk)
      obtain ⟨e0, e1⟩ := hA1.two (k := k) (by omega)
      have ef := hA1.frozen
      have hS := OwnAt.set1 (n := 2) (enc := rowC) (fun _ => rfl) hA1 (k := k) (by omega) (j := 1) (by omega) (.int .i64 (x + 21 * k + 20)) (rs[k].1, x + 21 * k + 20) rfl
      have HS := Lib.hid hS; clear hS
      have hC1 : Chg (B :: bs) w w1 := hC.trans (hc1.mono (by simp))
      have hBm : ∀ b ∈ bs, b ≠ B := fun b hb e => hBn (by rw [← e]; exact hb)
      have hPn : ∀ u : Value, PagesAt (w1.setCell ⟨B, o + k * 2 + 1, none⟩ u) (rs.set k (rs[k].1, x + 21 * k + 20)) (gs.set k (mkBlock (x + 21 * k))) bs := by
        intro u i y r b hy hr hbi
        have hbb := hBm b (List.mem_of_getElem? hbi)
        by_cases hik : i = k
        · subst hik
          rw [List.getElem?_set_self (by omega)] at hy hr
          obtain rfl := Option.some.inj hy
          obtain rfl := Option.some.inj hr
          rw [List.getElem?_eq_getElem (by omega)] at hbi
          obtain rfl := Option.some.inj hbi
          exact ⟨rfl, hO1.keep (setCell_other hbb)⟩
        · rw [List.getElem?_set_ne (Ne.symm hik)] at hy hr
          obtain ⟨h1, h2⟩ := HPA.out i y r b hy hr hbi
          refine ⟨h1, (h2.chg hc1 ?_).keep (setCell_other hbb)⟩
          simp only [List.mem_singleton]
          rintro rfl
          have hbl := (List.getElem?_eq_some_iff.1 hbi).1
          exact hik (nodup_inj hbn hbi (List.getElem?_eq_getElem (by omega)))
      have HPN := Lib.hid hPn; clear hPn
      go_wp2_with fail
      refine ⟨⟨k + 1, _, gs.set k (mkBlock (x + 21 * k)), by omega, by go_num, congrArg (Value.int .i64) (by omega), hC1.set (.inl (by simp)) _, HS.out, by rw [List.length_set]; exact hl, by rw [List.length_set]; exact hl2, HPN.out _, fun b hb => ?_, fun i hi => ?_⟩, by simp [intOf]; omega⟩
      · rcases List.mem_or_eq_of_mem_set hb with hb | rfl
        · exact HG.out b hb
        · rfl
      · by_cases hik : i = k
        · subst hik; rw [List.getElem?_set_self (by omega)]
        · rw [List.getElem?_set_ne (Ne.symm hik)]; exact HQ.out i (by omega)
    · obtain rfl : k = f.length := by omega
      go_wp2
      go_ret
      exact ⟨rfl, hC, gs, ⟨rs, ⟨T, o, cap, by rw [hl], hO⟩, by rw [hl, hl2], by rw [hb, hl2], hP⟩, hl2, HQ.out⟩

set_option maxHeartbeats 1000000 in
theorem heldBlockS_c (v : Value) (f : List Block) (B : Nat) (bs : List Nat) (x : Int) (w : World) (h : OwnFlash w v f B bs) (hn : f.length ≤ 1000) (hx0 : 0 ≤ x) (hx1 : x ≤ 1000000) (hq : ∀ i : Nat, i < f.length → f[i]? = some (mkBlock (x + 21 * i))) :
    Calls Try.prog 67 #[v, .int .i64 x] w (Ret w (.int .i64 (x + 21 * f.length))) := by
  obtain ⟨rows, ⟨T, o, cap, rfl, hA⟩, hr, hb, hP⟩ := h
  rw [hr]
  have HP : Hid (PagesAt w rows f bs) := Lib.hid hP
  have HQ := Lib.hid hq
  clear hP hq
  go_enter Try.func67, Try.ntmps67
  go_wp2
  go_loopw [1, 5] (fun y i wr => ∃ (k : Nat), k ≤ f.length ∧ i = .int .i64 k ∧ y = .int .i64 (x + 21 * k) ∧ Ext w wr) (fun _ i _ => f.length - (intOf i).toNat)
  case atStart => exact ⟨0, Nat.zero_le _, rfl, by simp, ext_refl _⟩
  case round =>
    obtain ⟨k, hk, rfl, rfl, hX⟩ := hrel
    by_cases hlt : k < f.length
    · have hA1 := hA.ext hX
      obtain ⟨e0, e1⟩ := hA1.two (k := k) (by omega)
      obtain ⟨hw, hpg⟩ := HP.out k f[k] rows[k] bs[k] (List.getElem?_eq_getElem (by omega)) (List.getElem?_eq_getElem (by omega)) (List.getElem?_eq_getElem (by omega))
      have hfk : f[k] = mkBlock (x + 21 * k) := by have := HQ.out k hlt; rw [List.getElem?_eq_getElem hlt] at this; exact Option.some.inj this
      rw [hfk] at hw hpg
      rw [hw] at e1
      simp only [mkBlock] at e1 hpg
      clear hfk hw
      go_wp2_with fail
      refine (heldPageS_c _ (mkPages (x + 21 * k)) bs[k] _ _ (hpg.ext hX) (by simp [mkPages]) (by omega) (by omega) (fun i hi => mkPages_get _ i (by simpa [mkPages] using hi))).mono ?_; rintro e1 w1 ⟨rfl, hx1⟩
      have hX1 : Ext w w1 := ext_trans hX hx1
      obtain ⟨e0, e1'⟩ := (hA.ext hX1).two (k := k) (by omega)
      replace e1' := cell_ext hx1 e1
      clear e1
      have hlen : (mkPages (x + 21 * k)).length = 4 := rfl
      rw [hlen]
      clear hlen hpg
      go_wp2_with fail
      refine ⟨⟨k + 1, by omega, by go_num, congrArg (Value.int .i64) (by omega), hX1⟩, by simp [intOf]; omega⟩
    · obtain rfl : k = f.length := by omega
      go_wp2
      go_ret
      exact ⟨rfl, hX⟩
end Go.Bu
