/- The law FnCostFlush holds of every input. -/
import Derived.Test.YtggcomepaloneaaZ8
import Derived.Test.YtggcomepaloneaaZ7
set_option linter.unusedVariables false
set_option linter.unusedSimpArgs false
namespace Go.Bu
open Go Go.RowKit Go.Plan Go.Proofs

/-- two rows of events that grow side by side -/
structure TwoRows (base : Nat) (w : World) (ov tv : Value) (zs ys : List Event) : Prop where
  one : ERow base w ov zs
  two : ERow base w tv ys
  apart : ∀ g, ov.ownBlock = some g → tv.ownBlock ≠ some g
theorem TwoRows.ext {base : Nat} {w w' : World} {ov tv : Value} {zs ys : List Event} (h : TwoRows base w ov tv zs ys) (hx : Ext w w') : TwoRows base w' ov tv zs ys := ⟨h.one.ext hx, h.two.ext hx, h.apart⟩
theorem TwoRows.left {base : Nat} {w w' : World} {ov ov' tv : Value} {zs zs' ys : List Event} (h : TwoRows base w ov tv zs ys) (hr : ERow base w' ov' zs') (hg : w.grownBy w' ov.ownBlock) (hf : ∀ g, ov'.ownBlock = some g → ov.ownBlock = some g ∨ w.heap.size ≤ g) : TwoRows base w' ov' tv zs' ys := by
  refine ⟨hr, erow_keep h.two fun g hg2 hl => hg.block g hl fun e => h.apart g e.symm hg2, fun g hg2 hgt => ?_⟩
  rcases hf g hg2 with h1 | h1
  · exact h.apart g h1 hgt
  · have := (h.two.lt g hgt).2; omega
theorem TwoRows.right {base : Nat} {w w' : World} {ov tv tv' : Value} {zs ys ys' : List Event} (h : TwoRows base w ov tv zs ys) (hr : ERow base w' tv' ys') (hg : w.grownBy w' tv.ownBlock) (hf : ∀ g, tv'.ownBlock = some g → tv.ownBlock = some g ∨ w.heap.size ≤ g) : TwoRows base w' ov tv' zs ys' := by
  refine ⟨erow_keep h.one fun g hg2 hl => hg.block g hl fun e => h.apart g hg2 e.symm, hr, fun g hg2 hgt => ?_⟩
  rcases hf g hgt with h1 | h1
  · exact h.apart g hg2 h1
  · have := (h.one.lt g hg2).2; omega
theorem TwoRows.forms {base : Nat} {w : World} {ov tv : Value} {zs ys : List Event} (h : TwoRows base w ov tv zs ys) : ∃ a c b d, ov = .slice a zs.length c ∧ tv = .slice b ys.length d := by
  obtain ⟨a, c, e1⟩ := h.one.form
  obtain ⟨b, d, e2⟩ := h.two.form
  exact ⟨a, c, b, d, e1, e2⟩


set_option maxRecDepth 20000 in
set_option maxHeartbeats 2000000 in
theorem lawCostFlush (v : Value) (xs : List Nat) (w : World) (h : Bytes (Old w) w v xs) (hs : ∀ x ∈ xs, x < 256) (hcap : ∀ a n c, v = .slice a n c → n ≤ c) :
    Calls Try.prog 4 #[v] w (Ret w (.bool true)) := by
  obtain ⟨a, cap, rfl⟩ := h.form
  by_cases hl : xs.length ≤ 1048576
  · go_enter Try.func4, Try.ntmps4
    go_wp2_with fail
    refine (drawCostRun_c _ xs _ h hs hl hcap).mono ?_; rintro e1 w1 ⟨v1, es, rfl, X1, hE, hcapE, hD, h61⟩
    obtain ⟨oa, ocap, rfl⟩ := hE.form
    have hoc := hcapE _ _ _ rfl
    have hS := specCostRun_c _ es w1 hE (eventD_c hD) (by omega)
    have hI := fun (w' : World) (hx : Ext w1 w') => implCostRun_c _ es w' (Sl.same (plain_kept _) hE (same_old hx) (old_ext hx)) (eventD_c hD) (by omega)
    have HD := Lib.hid hD
    have HE := Lib.hid hE
    clear hE hD hcapE
    by_cases h60 : es.length ≤ 60
    · rw [if_pos h60, decide_eq_true h60] at hS
      simp only [if_pos h60, decide_eq_true h60] at hI
      go_wp2_with fail
      refine hS.mono ?_; rintro e2 w2 ⟨rfl, hx2⟩
      go_wp2_with fail
      refine (hI _ (ext_alloc hx2 _)).mono ?_; rintro e3 w3 ⟨rfl, hx3⟩
      have X13 : Ext w1 w3 := ext_trans (ext_alloc hx2 _) hx3
      have G6 := keep_ext hx3 (hg_new (w := w2) (x := .cells #[.int .i64 (runCost es).writes, .int .i64 (runCost es).wipes, .int .i64 (runCost es).disks] 26) (b := w2.heap.size) rfl)
      obtain ⟨g6, gf6⟩ := cellsK G6
      have l6 := heap_lt G6
      clear hS hI hx2 hx3
      go_wp2_with fail
      refine (lqC (runCost es) _).mono ?_; rintro e4 w4 ⟨rfl, hx4⟩
      have X14 : Ext w1 w4 := ext_trans (ext_alloc X13 _) hx4
      have X34 : Ext w3 w4 := ext_trans (ext_alloc (ext_refl w3) _) hx4
      have G8 := keep_ext hx4 (hg_new (w := w3) (x := .cells #[.int .i64 (runCost es).writes, .int .i64 (runCost es).wipes, .int .i64 (runCost es).disks] 26) (b := w3.heap.size) rfl)
      replace G6 := keep_ext X34 G6
      clear g6 gf6 l6 hx4 X34 X13
      obtain ⟨g6, gf6⟩ := cellsK G6
      obtain ⟨g8, gf8⟩ := cellsK G8
      have l6 := heap_lt G6
      have l8 := heap_lt G8
      have GR : ((w4.alloc (.cells #[] 31)).alloc (.cells #[] 31)).heap[w4.heap.size]? = some (.cells #[] 31 (0, 0)) := hg_alloc (hg_new rfl)
      have GT : ((w4.alloc (.cells #[] 31)).alloc (.cells #[] 31)).heap[w4.heap.size + 1]? = some (.cells #[] 31 (0, 0)) := hg_new (by simp)
      have HT0 : Hid (TwoRows w4.heap.size ((w4.alloc (.cells #[] 31)).alloc (.cells #[] 31)) (.slice (some ⟨w4.heap.size, 0, none⟩) 0 0) (.slice (some ⟨w4.heap.size + 1, 0, none⟩) 0 0) [] []) :=
        Lib.hid ⟨ERow.empty GR (Nat.le_refl _), ERow.empty GT (by omega), fun g h1 h2 => by simp [Value.ownBlock] at h1 h2; omega⟩
      have X6 : Ext w ((w4.alloc (.cells #[] 31)).alloc (.cells #[] 31)) := ext_trans X1 (ext_trans X14 (ext_alloc (ext_alloc (ext_refl w4) _) _))
      have X16 : Ext w1 ((w4.alloc (.cells #[] 31)).alloc (.cells #[] 31)) := ext_trans X14 (ext_alloc (ext_alloc (ext_refl w4) _) _)
      have hz1 := X1.size
      have hz4 := X14.size
      clear GR GT
      go_wp2_with fail
      go_loopw [8, 9, 10] (fun ov tv y wr => ∃ (k : Nat), y = .int .i64 k ∧ k ≤ es.length ∧ k ≤ 30 ∧ Ext w wr ∧ Ext w1 wr ∧ w4.heap.size ≤ wr.heap.size ∧ Hid (TwoRows w4.heap.size wr ov tv ((es.take k).map wholeE) (twiceE (es.take k)))) (fun _ _ y _ => es.length - (intOf y).toNat)
      case atStart => exact ⟨0, rfl, by omega, by omega, X6, X16, by simp; omega, HT0⟩
      case round =>
        clear HT0 X6 X16
        obtain ⟨k, rfl, hk, hk3, X, XE, hwr, HT⟩ := hrel
        obtain ⟨oa1, oc1, ta, tc, rfl, rfl⟩ := HT.out.forms
        by_cases hlt : k < es.length
        · by_cases h30 : k < 30
          · obtain ⟨eb, eo, rfl, hbe, q0, q1, q2, q3, q4⟩ := (Sl.same (plain_kept _) HE.out (same_old XE) (old_ext XE) : Events (Old wr) wr _ _).at5 hlt
            obtain ⟨ev, hevv⟩ : ∃ e, es[k] = e := ⟨_, rfl⟩
            have HEV := Lib.hid hevv
            rw [hevv] at q0 q1 q2 q3 q4
            clear hevv
            have hl1 : ((es.take k).map wholeE).length ≤ 1000 := by simp; omega
            have hl2 : (twiceE (es.take k)).length ≤ 1000 := by have := (twice_len (es.take k)).2; rw [List.length_take] at this; omega
            have HS1 := Lib.hid (show (es.take (k + 1)).map wholeE = (es.take k).map wholeE ++ [wholeE ev] by rw [← take_snoc es k hlt, HEV.out, List.map_append]; rfl)
            have HS2 := Lib.hid (show twiceE (es.take (k + 1)) = if ev.kind = 2 then twiceE (es.take k) ++ [wholeE ev] ++ [wholeE ev] else twiceE (es.take k) ++ [wholeE ev] by rw [← take_snoc es k hlt, HEV.out, twice_snoc])
            generalize (es.take k).map wholeE = zs at *
            generalize twiceE (es.take k) = ys at *
            by_cases h2 : ev.kind = 2
            · obtain ⟨kd, ea, eb2, ec, et⟩ := ev
              obtain rfl : kd = 2 := h2
              rw [if_pos rfl] at HS2
              have HT1 := HT
              have HLW := Lib.hid hwr
              have HLT := Lib.hid fun g hg => show g ≠ wr.heap.size from by have := (HT.out.two.lt g hg).2; omega
              have XA := X
              have XB := XE
              clear HT X XE hwr
              go_wp2_with first
                | (refine wpList_appEventF rfl _ _ rfl rfl ((HT1.out.ext (ext_alloc (ext_alloc (ext_refl wr) (.cells #[.int .i64 2, .int .i64 ea, .int .i64 eb2, .int .i64 60, .bool false] 31)) (.cells #[.int .i64 2, .int .i64 ea, .int .i64 eb2, .int .i64 60, .bool false] 31))).one) (y := ⟨2, ea, eb2, 60, false⟩) rfl (hg_new (by simp)) (by omega) (by have := HLW.out; simp; omega) (fun v' w' hS' hg hf => ?_)
                   have GA : w'.heap[wr.heap.size]? = some (.cells #[.int .i64 2, .int .i64 ea, .int .i64 eb2, .int .i64 60, .bool false] 31 (0, 0)) := by
                     rw [hg.block _ (by simp; omega) (fun e => by have := (HT1.out.one.lt _ e.symm).2; omega)]; exact hg_alloc (hg_new rfl)
                   replace XA := ext_grown (ext_alloc (ext_alloc XA (.cells #[.int .i64 2, .int .i64 ea, .int .i64 eb2, .int .i64 60, .bool false] 31)) (.cells #[.int .i64 2, .int .i64 ea, .int .i64 eb2, .int .i64 60, .bool false] 31)) (ERow.weak (HT1.out.ext (ext_alloc (ext_alloc (ext_refl wr) (.cells #[.int .i64 2, .int .i64 ea, .int .i64 eb2, .int .i64 60, .bool false] 31)) (.cells #[.int .i64 2, .int .i64 ea, .int .i64 eb2, .int .i64 60, .bool false] 31))).one (by omega)) hg
                   replace XB := ext_grown (ext_alloc (ext_alloc XB (.cells #[.int .i64 2, .int .i64 ea, .int .i64 eb2, .int .i64 60, .bool false] 31)) (.cells #[.int .i64 2, .int .i64 ea, .int .i64 eb2, .int .i64 60, .bool false] 31)) (ERow.weak (HT1.out.ext (ext_alloc (ext_alloc (ext_refl wr) (.cells #[.int .i64 2, .int .i64 ea, .int .i64 eb2, .int .i64 60, .bool false] 31)) (.cells #[.int .i64 2, .int .i64 ea, .int .i64 eb2, .int .i64 60, .bool false] 31))).one (by omega)) hg
                   replace HT1 := Lib.hid ((HT1.out.ext (ext_alloc (ext_alloc (ext_refl wr) (.cells #[.int .i64 2, .int .i64 ea, .int .i64 eb2, .int .i64 60, .bool false] 31)) (.cells #[.int .i64 2, .int .i64 ea, .int .i64 eb2, .int .i64 60, .bool false] 31))).left hS' hg hf)
                   have hsz := hg.size
                   simp at hsz
                   have hwr : Hid (w4.heap.size ≤ w'.heap.size) := Lib.hid (by have := HLW.out; omega)
                   clear HLW
                   have HLW := hwr
                   obtain ⟨za2, zcap2, rfl⟩ := ERow.form hS'
                   simp only [List.length_append, List.length_cons, List.length_nil, Nat.zero_add] at HT1
                   clear hg hf hS' q0 q1 q2 q3 q4 hwr
                   obtain ⟨gA, gfA⟩ := cellsK GA
                   have lA := heap_lt GA)
                | (refine wpList_appEventF rfl _ _ rfl rfl ((HT1.out.ext (ext_alloc (ext_refl _) (.cells #[.int .i64 2, .int .i64 ea, .int .i64 eb2, .int .i64 60, .bool false] 31))).two) (y := ⟨2, ea, eb2, 60, false⟩) rfl (hg_new (by simp)) (by first | omega | (simp; omega)) (by have := HLW.out; simp; omega) (fun v' w'' hS' hg hf => ?_)
                   have GA2 : w''.heap[wr.heap.size]? = some (.cells #[.int .i64 2, .int .i64 ea, .int .i64 eb2, .int .i64 60, .bool false] 31 (0, 0)) := by
                     rw [hg.block _ (by simp; omega) (fun e => HLT.out _ e.symm rfl)]; exact hg_alloc GA
                   replace XA := ext_grown (ext_alloc XA (.cells #[.int .i64 2, .int .i64 ea, .int .i64 eb2, .int .i64 60, .bool false] 31)) (ERow.weak (HT1.out.ext (ext_alloc (ext_refl _) (.cells #[.int .i64 2, .int .i64 ea, .int .i64 eb2, .int .i64 60, .bool false] 31))).two (by omega)) hg
                   replace XB := ext_grown (ext_alloc XB (.cells #[.int .i64 2, .int .i64 ea, .int .i64 eb2, .int .i64 60, .bool false] 31)) (ERow.weak (HT1.out.ext (ext_alloc (ext_refl _) (.cells #[.int .i64 2, .int .i64 ea, .int .i64 eb2, .int .i64 60, .bool false] 31))).two (by omega)) hg
                   replace HT1 := Lib.hid ((HT1.out.ext (ext_alloc (ext_refl _) (.cells #[.int .i64 2, .int .i64 ea, .int .i64 eb2, .int .i64 60, .bool false] 31))).right hS' hg hf)
                   have hsz := hg.size
                   simp at hsz
                   have HLW2 : Hid (w4.heap.size ≤ w''.heap.size) := Lib.hid (by have := HLW.out; omega)
                   have HLT2 := Lib.hid fun g hg2 => show g ≠ wr.heap.size from by
                     rcases hf g hg2 with h1 | h1
                     · exact HLT.out g h1
                     · simp at h1; omega
                   clear HLW HLT GA gA gfA lA
                   have HLW := HLW2
                   have HLT := HLT2
                   have GA := GA2
                   obtain ⟨za2, zcap2, rfl⟩ := ERow.form hS'
                   simp only [List.length_append, List.length_cons, List.length_nil, Nat.zero_add] at HT1 HLT
                   clear hg hf hS' HLW2 HLT2 GA2
                   obtain ⟨gA, gfA⟩ := cellsK GA
                   have lA := heap_lt GA)
              have hlw := HLW.out
              refine ⟨⟨k + 1, by go_num, by omega, by omega, XA, XB, hlw, Lib.hid ?_⟩, by simp [intOf]; omega⟩
              rw [HS1.out, HS2.out]
              exact HT1.out
            · obtain ⟨kd, ea, eb2, ec, et⟩ := ev
              have hk2 : (kd == 2) = false := by simpa using h2
              rw [if_neg h2] at HS2
              have H2 := Lib.hid h2
              clear h2
              have HT1 := HT
              have HLW := Lib.hid hwr
              have HLT := Lib.hid fun g hg => show g ≠ wr.heap.size from by have := (HT.out.two.lt g hg).2; omega
              have XA := X
              have XB := XE
              clear HT X XE hwr
              go_wp2_with first
                | (refine wpList_appEventF rfl _ _ rfl rfl ((HT1.out.ext (ext_alloc (ext_alloc (ext_refl wr) (.cells #[.int .i64 kd, .int .i64 ea, .int .i64 eb2, .int .i64 60, .bool false] 31)) (.cells #[.int .i64 kd, .int .i64 ea, .int .i64 eb2, .int .i64 60, .bool false] 31))).one) (y := ⟨kd, ea, eb2, 60, false⟩) rfl (hg_new (by simp)) (by omega) (by have := HLW.out; simp; omega) (fun v' w' hS' hg hf => ?_)
                   have GA : w'.heap[wr.heap.size]? = some (.cells #[.int .i64 kd, .int .i64 ea, .int .i64 eb2, .int .i64 60, .bool false] 31 (0, 0)) := by
                     rw [hg.block _ (by simp; omega) (fun e => by have := (HT1.out.one.lt _ e.symm).2; omega)]; exact hg_alloc (hg_new rfl)
                   replace XA := ext_grown (ext_alloc (ext_alloc XA (.cells #[.int .i64 kd, .int .i64 ea, .int .i64 eb2, .int .i64 60, .bool false] 31)) (.cells #[.int .i64 kd, .int .i64 ea, .int .i64 eb2, .int .i64 60, .bool false] 31)) (ERow.weak (HT1.out.ext (ext_alloc (ext_alloc (ext_refl wr) (.cells #[.int .i64 kd, .int .i64 ea, .int .i64 eb2, .int .i64 60, .bool false] 31)) (.cells #[.int .i64 kd, .int .i64 ea, .int .i64 eb2, .int .i64 60, .bool false] 31))).one (by omega)) hg
                   replace XB := ext_grown (ext_alloc (ext_alloc XB (.cells #[.int .i64 kd, .int .i64 ea, .int .i64 eb2, .int .i64 60, .bool false] 31)) (.cells #[.int .i64 kd, .int .i64 ea, .int .i64 eb2, .int .i64 60, .bool false] 31)) (ERow.weak (HT1.out.ext (ext_alloc (ext_alloc (ext_refl wr) (.cells #[.int .i64 kd, .int .i64 ea, .int .i64 eb2, .int .i64 60, .bool false] 31)) (.cells #[.int .i64 kd, .int .i64 ea, .int .i64 eb2, .int .i64 60, .bool false] 31))).one (by omega)) hg
                   replace HT1 := Lib.hid ((HT1.out.ext (ext_alloc (ext_alloc (ext_refl wr) (.cells #[.int .i64 kd, .int .i64 ea, .int .i64 eb2, .int .i64 60, .bool false] 31)) (.cells #[.int .i64 kd, .int .i64 ea, .int .i64 eb2, .int .i64 60, .bool false] 31))).left hS' hg hf)
                   have hsz := hg.size
                   simp at hsz
                   have hwr : Hid (w4.heap.size ≤ w'.heap.size) := Lib.hid (by have := HLW.out; omega)
                   clear HLW
                   have HLW := hwr
                   obtain ⟨za2, zcap2, rfl⟩ := ERow.form hS'
                   simp only [List.length_append, List.length_cons, List.length_nil, Nat.zero_add] at HT1
                   clear hg hf hS' q0 q1 q2 q3 q4 hwr
                   obtain ⟨gA, gfA⟩ := cellsK GA
                   have lA := heap_lt GA)
                | (refine wpList_appEventF rfl _ _ rfl rfl ((HT1.out.ext (ext_alloc (ext_refl _) (.cells #[.int .i64 kd, .int .i64 ea, .int .i64 eb2, .int .i64 60, .bool false] 31))).two) (y := ⟨kd, ea, eb2, 60, false⟩) rfl (hg_new (by simp)) (by first | omega | (simp; omega)) (by have := HLW.out; simp; omega) (fun v' w'' hS' hg hf => ?_)
                   have GA2 : w''.heap[wr.heap.size]? = some (.cells #[.int .i64 kd, .int .i64 ea, .int .i64 eb2, .int .i64 60, .bool false] 31 (0, 0)) := by
                     rw [hg.block _ (by simp; omega) (fun e => HLT.out _ e.symm rfl)]; exact hg_alloc GA
                   replace XA := ext_grown (ext_alloc XA (.cells #[.int .i64 kd, .int .i64 ea, .int .i64 eb2, .int .i64 60, .bool false] 31)) (ERow.weak (HT1.out.ext (ext_alloc (ext_refl _) (.cells #[.int .i64 kd, .int .i64 ea, .int .i64 eb2, .int .i64 60, .bool false] 31))).two (by omega)) hg
                   replace XB := ext_grown (ext_alloc XB (.cells #[.int .i64 kd, .int .i64 ea, .int .i64 eb2, .int .i64 60, .bool false] 31)) (ERow.weak (HT1.out.ext (ext_alloc (ext_refl _) (.cells #[.int .i64 kd, .int .i64 ea, .int .i64 eb2, .int .i64 60, .bool false] 31))).two (by omega)) hg
                   replace HT1 := Lib.hid ((HT1.out.ext (ext_alloc (ext_refl _) (.cells #[.int .i64 kd, .int .i64 ea, .int .i64 eb2, .int .i64 60, .bool false] 31))).right hS' hg hf)
                   have hsz := hg.size
                   simp at hsz
                   have HLW2 : Hid (w4.heap.size ≤ w''.heap.size) := Lib.hid (by have := HLW.out; omega)
                   have HLT2 := Lib.hid fun g hg2 => show g ≠ wr.heap.size from by
                     rcases hf g hg2 with h1 | h1
                     · exact HLT.out g h1
                     · simp at h1; omega
                   clear HLW HLT GA gA gfA lA
                   have HLW := HLW2
                   have HLT := HLT2
                   have GA := GA2
                   obtain ⟨za2, zcap2, rfl⟩ := ERow.form hS'
                   simp only [List.length_append, List.length_cons, List.length_nil, Nat.zero_add] at HT1 HLT
                   clear hg hf hS' HLW2 HLT2 GA2
                   obtain ⟨gA, gfA⟩ := cellsK GA
                   have lA := heap_lt GA)
              have hlw := HLW.out
              refine ⟨⟨k + 1, by go_num, by omega, by omega, XA, XB, hlw, Lib.hid ?_⟩, by simp [intOf]; omega⟩
              rw [HS1.out, HS2.out]
              exact HT1.out
          · obtain rfl : k = 30 := by omega
            have hl1 : ((es.take 30).map wholeE).length ≤ 60 := by simp; omega
            have hl2 : (twiceE (es.take 30)).length ≤ 60 := by have := (twice_len (es.take 30)).2; rw [List.length_take] at this; omega
            have HQ := Lib.hid (run_twice (es.take 30))
            have hc1 : ∀ e ∈ (es.take 30).map wholeE, -9223372036854775808 ≤ e.c ∧ e.c ≤ 9223372036854775807 := fun e he => by obtain ⟨x, _, rfl⟩ := List.mem_map.1 he; unfold wholeE; dsimp only; omega
            have hc2 : ∀ e ∈ twiceE (es.take 30), -9223372036854775808 ≤ e.c ∧ e.c ≤ 9223372036854775807 := fun e he => by
              unfold twiceE at he
              obtain ⟨x, _, hx⟩ := List.mem_flatMap.1 he
              have : e = wholeE x := by split at hx <;> simp at hx <;> exact hx
              rw [this]; unfold wholeE; dsimp only; omega
            generalize (es.take 30).map wholeE = zs at *
            generalize twiceE (es.take 30) = ys at *
            have H1 := implCostRun_c _ zs wr HT.out.one.events hc1 (by omega)
            have H2 := fun w' hx => implCostRun_c _ ys w' (HT.out.two.ext hx).events hc2 (by omega)
            rw [if_pos hl1, decide_eq_true hl1] at H1
            simp only [if_pos hl2, decide_eq_true hl2] at H2
            rw [HQ.out] at H2
            generalize runCost zs = C1 at *
            clear HQ HT hc1 hc2
            go_wp2_with fail
            refine H1.mono ?_; rintro e7 w7 ⟨rfl, hx7⟩
            have XA := ext_trans X hx7
            clear H1
            go_wp2_with fail
            refine (H2 _ (ext_alloc hx7 _)).mono ?_; rintro e8 w8 ⟨rfl, hx8⟩
            have GC := keep_ext hx8 (hg_new (w := w7) (x := .cells #[.int .i64 C1.writes, .int .i64 C1.wipes, .int .i64 C1.disks] 26) (b := w7.heap.size) rfl)
            obtain ⟨gC, gfC⟩ := cellsK GC
            have lC := heap_lt GC
            have XB := ext_trans (ext_alloc XA _) hx8
            clear H2 hx8 hx7
            go_wp2_with fail
            refine (lqC C1 _).mono ?_; rintro e9 w9 ⟨rfl, hx9⟩
            go_wp2_with fail
            go_ret
            exact ⟨rfl, ext_trans (ext_alloc XB _) hx9⟩
        · obtain rfl : k = es.length := by omega
          have hl1 : ((es.take es.length).map wholeE).length ≤ 60 := by simp; omega
          have hl2 : (twiceE (es.take es.length)).length ≤ 60 := by have := (twice_len (es.take es.length)).2; rw [List.length_take] at this; omega
          have HQ := Lib.hid (run_twice (es.take es.length))
          have hc1 : ∀ e ∈ (es.take es.length).map wholeE, -9223372036854775808 ≤ e.c ∧ e.c ≤ 9223372036854775807 := fun e he => by obtain ⟨x, _, rfl⟩ := List.mem_map.1 he; unfold wholeE; dsimp only; omega
          have hc2 : ∀ e ∈ twiceE (es.take es.length), -9223372036854775808 ≤ e.c ∧ e.c ≤ 9223372036854775807 := fun e he => by
            unfold twiceE at he
            obtain ⟨x, _, hx⟩ := List.mem_flatMap.1 he
            have : e = wholeE x := by split at hx <;> simp at hx <;> exact hx
            rw [this]; unfold wholeE; dsimp only; omega
          generalize (es.take es.length).map wholeE = zs at *
          generalize twiceE (es.take es.length) = ys at *
          have H1 := implCostRun_c _ zs wr HT.out.one.events hc1 (by omega)
          have H2 := fun w' hx => implCostRun_c _ ys w' (HT.out.two.ext hx).events hc2 (by omega)
          rw [if_pos hl1, decide_eq_true hl1] at H1
          simp only [if_pos hl2, decide_eq_true hl2] at H2
          rw [HQ.out] at H2
          generalize runCost zs = C1 at *
          clear HQ HT hc1 hc2
          go_wp2_with fail
          refine H1.mono ?_; rintro e7 w7 ⟨rfl, hx7⟩
          have XA := ext_trans X hx7
          clear H1
          go_wp2_with fail
          refine (H2 _ (ext_alloc hx7 _)).mono ?_; rintro e8 w8 ⟨rfl, hx8⟩
          have GC := keep_ext hx8 (hg_new (w := w7) (x := .cells #[.int .i64 C1.writes, .int .i64 C1.wipes, .int .i64 C1.disks] 26) (b := w7.heap.size) rfl)
          obtain ⟨gC, gfC⟩ := cellsK GC
          have lC := heap_lt GC
          have XB := ext_trans (ext_alloc XA _) hx8
          clear H2 hx8 hx7
          go_wp2_with fail
          refine (lqC C1 _).mono ?_; rintro e9 w9 ⟨rfl, hx9⟩
          go_wp2_with fail
          go_ret
          exact ⟨rfl, ext_trans (ext_alloc XB _) hx9⟩
    · rw [if_neg h60, decide_eq_false h60] at hS
      simp only [if_neg h60, decide_eq_false h60] at hI
      go_wp2_with fail
      refine hS.mono ?_; rintro e2 w2 ⟨rfl, hx2⟩
      go_wp2_with fail
      refine (hI _ (ext_alloc hx2 _)).mono ?_; rintro e3 w3 ⟨rfl, hx3⟩
      have X13 : Ext w1 w3 := ext_trans (ext_alloc hx2 _) hx3
      have G6 := keep_ext hx3 (hg_new (w := w2) (x := .cells #[.int .i64 cost0.writes, .int .i64 cost0.wipes, .int .i64 cost0.disks] 26) (b := w2.heap.size) rfl)
      obtain ⟨g6, gf6⟩ := cellsK G6
      have l6 := heap_lt G6
      clear hS hI hx2 hx3
      go_wp2_with fail
      refine (lqC cost0 _).mono ?_; rintro e4 w4 ⟨rfl, hx4⟩
      have X14 : Ext w1 w4 := ext_trans (ext_alloc X13 _) hx4
      have X34 : Ext w3 w4 := ext_trans (ext_alloc (ext_refl w3) _) hx4
      have G8 := keep_ext hx4 (hg_new (w := w3) (x := .cells #[.int .i64 cost0.writes, .int .i64 cost0.wipes, .int .i64 cost0.disks] 26) (b := w3.heap.size) rfl)
      replace G6 := keep_ext X34 G6
      clear g6 gf6 l6 hx4 X34 X13
      obtain ⟨g6, gf6⟩ := cellsK G6
      obtain ⟨g8, gf8⟩ := cellsK G8
      have l6 := heap_lt G6
      have l8 := heap_lt G8
      go_wp2_with fail
      refine (lqC cost0 _).mono ?_; rintro e5 w5 ⟨rfl, hx5⟩
      go_wp2_with fail
      go_ret
      exact ⟨rfl, ext_trans X1 (ext_trans X14 hx5)⟩
  · go_enter Try.func4, Try.ntmps4
    go_wp2_with fail
    all_goals
      go_ret
      exact ⟨rfl, ext_refl _⟩
end Go.Bu
