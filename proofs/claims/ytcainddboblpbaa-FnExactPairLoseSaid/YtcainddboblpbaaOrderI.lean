/- The program's FindOrder. -/
import Derived.Test.YtcainddboblpbaaOrderLaw
set_option linter.unusedVariables false
set_option linter.unusedSimpArgs false
namespace Go.Bu
open Go Go.RowKit Go.Plan Go.Proofs

theorem badI {f : List Block} {i : Nat} (hi : i < 4) (h : okI (spansOf f) i = false) : orderB f = false := by
  rw [← implOrder_eq]; unfold implOrderB
  have : (List.range 4).all (okI (spansOf f)) = false := by
    rw [← Bool.not_eq_true, List.all_eq_true]; intro hh; have := hh i (List.mem_range.2 hi); rw [h] at this; cases this
  rw [this]; simp
theorem badP {f : List Block} {i : Nat} (hi : i < 4) (h : okP f (spansOf f) i = false) : orderB f = false := by
  rw [← implOrder_eq]; unfold implOrderB
  have : (List.range 4).all (okP f (spansOf f)) = false := by
    rw [← Bool.not_eq_true, List.all_eq_true]; intro hh; have := hh i (List.mem_range.2 hi); rw [h] at this; cases this
  rw [this]; simp
theorem orderEnd {f : List Block} (hf : flashOkB f = true) (h1 : ∀ i, i < 4 → okI (spansOf f) i = true) (h2 : ∀ i, i < 4 → okP f (spansOf f) i = true) : orderB f = decide (cntP f 4 ≤ 1) := by
  rw [← implOrder_eq]; unfold implOrderB
  have e1 : (List.range 4).all (okI (spansOf f)) = true := List.all_eq_true.2 fun i hi => h1 i (List.mem_range.1 hi)
  have e2 : (List.range 4).all (okP f (spansOf f)) = true := List.all_eq_true.2 fun i hi => h2 i (List.mem_range.1 hi)
  rw [hf, e1, e2]; simp
theorem newN_succ (ss : List Span) (i : Nat) (h : i < ss.length) : newN ss (i + 1) = if newN ss i < (spn ss i).2 then (spn ss i).2 else newN ss i := by
  unfold newN spn
  rw [← take_snoc ss i h, List.foldl_append, List.getD_eq_getElem?_getD, List.getElem?_eq_getElem h]; rfl
theorem cntP_succ (f : List Block) (i : Nat) (h : i < f.length) : cntP f (i + 1) = if partB (blk f i).pages = true then cntP f i + 1 else cntP f i := by
  unfold cntP blk
  rw [← take_snoc f i h, List.filter_append, List.getD_eq_getElem?_getD, List.getElem?_eq_getElem h]
  by_cases hb : partB f[i].pages = true
  · simp [hb]
  · simp [hb]
theorem cntP_bd (f : List Block) (i : Nat) : 0 ≤ cntP f i ∧ cntP f i ≤ i := by
  unfold cntP
  refine ⟨by omega, ?_⟩
  have h1 := List.length_filter_le (fun b : Block => partB b.pages) (f.take i)
  have h2 := List.length_take_le i f
  omega
theorem spn_get {ss : List Span} {k : Nat} (h : k < ss.length) : ss[k] = spn ss k := by unfold spn; rw [List.getD_eq_getElem?_getD, List.getElem?_eq_getElem h]; rfl

set_option maxRecDepth 20000 in
set_option maxHeartbeats 4000000 in
theorem implFindOrder_c (v : Value) (f : List Block) (w : World) (h : Flash (Old w) w v f) (hp : ∀ b ∈ f, b.pages.length ≤ 1048576) :
    Calls Try.prog 49 #[v] w (Ret w (.bool (orderB f))) := by
  have hFO := fun (w' : World) (hx : Ext w w') => implFlashOk_c v f w' (h.ext hx) hp
  by_cases hok : flashOkB f = true
  · have hF := flashOk_iff.1 hok
    have h4 := hF.len
    have hSP := fun (w' : World) (hx : Ext w w') => spansOf_c v f w' (h.ext hx) h4 hp (fun b hb p hpp => pageOk_seq (hF.pg hb p hpp))
    have HBI := fun i hi he => Lib.hid (badI (f := f) (i := i) hi he)
    have HBP := fun i hi he => Lib.hid (badP (f := f) (i := i) hi he)
    have HE := fun h1 h2 => Lib.hid (orderEnd hok h1 h2)
    rw [hok] at hFO
    have hlen : (spansOf f).length = 4 := spansL_len _
    have HP := Lib.hid hp
    have H4 := Lib.hid h4
    clear hok hF hp
    generalize spansOf f = ss at *
    generalize orderB f = A at *
    obtain ⟨a, cap, rfl⟩ := h.form
    rw [h4] at h hFO hSP ⊢
    clear h4
    go_enter Try.func49, Try.ntmps49
    go_wp2_with fail
    refine (hFO _ (ext_refl _)).mono ?_; rintro e1 w1 ⟨rfl, hx1⟩
    go_wp2_with fail
    refine (hSP _ hx1).mono ?_; rintro e2 w2 ⟨B, rfl, hx2, hB, hO⟩
    have X2 := ext_trans hx1 hx2
    have HO := Lib.hid hO
    have HL := Lib.hid hlen
    clear hFO hSP hx1 hx2 hO hlen hB
    go_wp2_with fail
    have HOK0 : Hid (∀ j, j < 0 → okI ss j = true) := Lib.hid (fun j hj => absurd hj (Nat.not_lt_zero _))
    go_loopw [4, 19] (fun n y wr => ∃ i : Nat, i ≤ 4 ∧ y = .int .i64 i ∧ n = .int .i64 (newN ss i) ∧ Ext w2 wr ∧ Hid (∀ j, j < i → okI ss j = true)) (fun _ y _ => 4 - (intOf y).toNat)
    case atStart => exact ⟨0, by omega, rfl, rfl, ext_refl _, HOK0⟩
    case round =>
      clear HOK0
      obtain ⟨i, hi, rfl, rfl, hX, HI⟩ := hrel
      by_cases hlt : i < 4
      · have hO := HO.out.ext hX
        have hil : i < ss.length := by have := HL.out; omega
        obtain ⟨c0, c1⟩ := hO.two' hil
        rw [Nat.zero_add] at c0 c1
        have cf := hO.frozen
        have hsp := spn_get hil
        rw [hsp] at c0 c1
        have HN := Lib.hid (newN_succ ss i hil)
        have hcut : ∀ w' : World, (Instr.slice 100 (.slice (some ⟨B, 0, none⟩) 4 4) none (some (.int .i64 i)) none).run Try.prog w' = .ok (.slice (some ⟨B, 0, none⟩) i 4) w' := fun w' => by
          rw [run_slice_h w' 100 (some ⟨B, 0, none⟩) 4 4 (by kernel_rfl) .i64 i (by omega) (by omega)]
          rw [show (sizeOf (Try.prog.elem 100)).run Try.prog w' = .ok 2 w' by kernel_rfl]
          simp only [Result.andThen, sliced, Int.toNat_natCast, Nat.sub_zero]
          split <;> simp [Addr.add]
        have HO2 := Lib.hid hO
        have HSZ := Lib.hid hX.size
        clear hsp hO
        obtain ⟨lo, hh, hs⟩ : ∃ lo hh, spn ss i = (lo, hh) := ⟨_, _, rfl⟩
        rw [hs] at c0 c1 HN
        dsimp only at c0 c1 HN
        have HS := Lib.hid hs
        clear hs
        obtain ⟨nw, hnw⟩ : ∃ nw, newN ss i = nw := ⟨_, rfl⟩
        rw [hnw] at HN ⊢
        clear hnw
        by_cases hgt : nw < hh
        · have HNX : Hid (newN ss (i + 1) = hh) := Lib.hid (by rw [HN.out, if_pos hgt])
          have XB : Ext w2 (wr.alloc (.cells #[.int .i64 lo, .int .i64 hh] 103)) := ext_alloc hX _
          have GI : (wr.alloc (.cells #[.int .i64 lo, .int .i64 hh] 103)).heap[wr.heap.size]? = some (.cells #[.int .i64 lo, .int .i64 hh] 103 (0, 0)) := hg_new rfl
          have hI := HI.out
          clear HN
          go_wp2_with fail
          have HK0 : Hid (∀ j, j < 0 → ovl (spn ss i) (spn ss j) = false) := Lib.hid (fun j hj => absurd hj (Nat.not_lt_zero _))
          obtain ⟨wo, rfl⟩ : ∃ wo : World, wo = wr := ⟨_, rfl⟩
          go_loopw [32] (fun y wr2 => ∃ k : Nat, k ≤ i ∧ y = .int .i64 k ∧ Ext w2 wr2 ∧ wr2.heap[wo.heap.size]? = some (.cells #[.int .i64 lo, .int .i64 hh] 103 (0, 0)) ∧ Hid (∀ j, j < k → ovl (spn ss i) (spn ss j) = false)) (fun y _ => i - (intOf y).toNat)
          case atStart => exact ⟨0, by omega, rfl, XB, GI, HK0⟩
          case round =>
            clear HK0 XB GI c0 c1 cf
            obtain ⟨k, hk, rfl, hX3, G6, HK⟩ := hrel
            by_cases hki : k < i
            · have hO := HO.out.ext hX3
              have hkl : k < ss.length := by have := HL.out; omega
              obtain ⟨d0, d1⟩ := hO.two' hkl
              rw [Nat.zero_add, spn_get hkl] at d0 d1
              obtain ⟨lo2, hh2, hs2⟩ : ∃ lo hh, spn ss k = (lo, hh) := ⟨_, _, rfl⟩
              rw [hs2] at d0 d1
              dsimp only at d0 d1
              have hov : ovl (spn ss i) (spn ss k) = (decide (0 < hh) && decide (0 < hh2) && decide (lo2 ≤ hh) && decide (lo ≤ hh2)) := by rw [HS.out, hs2]; rfl
              have HOV := Lib.hid hov
              obtain ⟨g6, gf6⟩ := cellsK G6
              have l6 := heap_lt G6
              clear hO hs2 hov
              by_cases h1 : 0 < hh
              · by_cases h2 : 0 < hh2
                · by_cases h3 : lo2 ≤ hh
                  · by_cases h4 : lo ≤ hh2
                    · have hA : okI ss i = false := by
                        unfold okI; rw [← Bool.not_eq_true, List.all_eq_true]; intro hh'; have := hh' k (List.mem_range.2 hki)
                        rw [HOV.out] at this; simp [h1, h2, h3, h4] at this
                      have hA2 := (HBI i hlt hA).out
                      subst hA2
                      clear HOV hA
                      go_wp2_with fail
                      go_ret
                      exact ⟨rfl, ext_trans X2 (ext_alloc hX3 _)⟩
                    · have HK2 : Hid (∀ j, j < k + 1 → ovl (spn ss i) (spn ss j) = false) := Lib.hid (fun j hj => by
                        by_cases e : j = k
                        · subst e; rw [HOV.out]; simp only [Bool.and_eq_false_iff, decide_eq_false_iff_not]; omega
                        · exact HK.out j (by omega))
                      clear HOV HK
                      go_wp2_with fail
                      go_roundw
                      case rel => exact ⟨k + 1, by omega, by go_num, ext_alloc hX3 _, hg_alloc G6, HK2⟩
                      case measure => simp [intOf]; omega
                  · have HK2 : Hid (∀ j, j < k + 1 → ovl (spn ss i) (spn ss j) = false) := Lib.hid (fun j hj => by
                      by_cases e : j = k
                      · subst e; rw [HOV.out]; simp only [Bool.and_eq_false_iff, decide_eq_false_iff_not]; omega
                      · exact HK.out j (by omega))
                    clear HOV HK
                    go_wp2_with fail
                    go_roundw
                    case rel => exact ⟨k + 1, by omega, by go_num, ext_alloc hX3 _, hg_alloc G6, HK2⟩
                    case measure => simp [intOf]; omega
                · have HK2 : Hid (∀ j, j < k + 1 → ovl (spn ss i) (spn ss j) = false) := Lib.hid (fun j hj => by
                    by_cases e : j = k
                    · subst e; rw [HOV.out]; simp only [Bool.and_eq_false_iff, decide_eq_false_iff_not]; omega
                    · exact HK.out j (by omega))
                  clear HOV HK
                  go_wp2_with fail
                  go_roundw
                  case rel => exact ⟨k + 1, by omega, by go_num, ext_alloc hX3 _, hg_alloc G6, HK2⟩
                  case measure => simp [intOf]; omega
              · have HK2 : Hid (∀ j, j < k + 1 → ovl (spn ss i) (spn ss j) = false) := Lib.hid (fun j hj => by
                  by_cases e : j = k
                  · subst e; rw [HOV.out]; simp only [Bool.and_eq_false_iff, decide_eq_false_iff_not]; omega
                  · exact HK.out j (by omega))
                clear HOV HK
                go_wp2_with fail
                go_roundw
                case rel => exact ⟨k + 1, by omega, by go_num, ext_alloc hX3 _, hg_alloc G6, HK2⟩
                case measure => simp [intOf]; omega
            · obtain rfl : k = i := by omega
              have HI2 : Hid (∀ j, j < k + 1 → okI ss j = true) := Lib.hid (fun j hj => by
                by_cases e : j = k
                · subst e; unfold okI; rw [List.all_eq_true]; intro m hm; rw [HK.out m (List.mem_range.1 hm)]; rfl
                · exact hI j (by omega))
              clear HK hI HI
              go_wp2_with fail
              go_roundw
              case rel => exact ⟨k + 1, by omega, by go_num, by rw [HNX.out], hX3, HI2⟩
              case measure => simp [intOf]; omega
        · have HNX : Hid (newN ss (i + 1) = nw) := Lib.hid (by rw [HN.out, if_neg hgt])
          have XB : Ext w2 (wr.alloc (.cells #[.int .i64 lo, .int .i64 hh] 103)) := ext_alloc hX _
          have GI : (wr.alloc (.cells #[.int .i64 lo, .int .i64 hh] 103)).heap[wr.heap.size]? = some (.cells #[.int .i64 lo, .int .i64 hh] 103 (0, 0)) := hg_new rfl
          have hI := HI.out
          clear HN
          go_wp2_with fail
          have HK0 : Hid (∀ j, j < 0 → ovl (spn ss i) (spn ss j) = false) := Lib.hid (fun j hj => absurd hj (Nat.not_lt_zero _))
          obtain ⟨wo, rfl⟩ : ∃ wo : World, wo = wr := ⟨_, rfl⟩
          go_loopw [32] (fun y wr2 => ∃ k : Nat, k ≤ i ∧ y = .int .i64 k ∧ Ext w2 wr2 ∧ wr2.heap[wo.heap.size]? = some (.cells #[.int .i64 lo, .int .i64 hh] 103 (0, 0)) ∧ Hid (∀ j, j < k → ovl (spn ss i) (spn ss j) = false)) (fun y _ => i - (intOf y).toNat)
          case atStart => exact ⟨0, by omega, rfl, XB, GI, HK0⟩
          case round =>
            clear HK0 XB GI c0 c1 cf
            obtain ⟨k, hk, rfl, hX3, G6, HK⟩ := hrel
            by_cases hki : k < i
            · have hO := HO.out.ext hX3
              have hkl : k < ss.length := by have := HL.out; omega
              obtain ⟨d0, d1⟩ := hO.two' hkl
              rw [Nat.zero_add, spn_get hkl] at d0 d1
              obtain ⟨lo2, hh2, hs2⟩ : ∃ lo hh, spn ss k = (lo, hh) := ⟨_, _, rfl⟩
              rw [hs2] at d0 d1
              dsimp only at d0 d1
              have hov : ovl (spn ss i) (spn ss k) = (decide (0 < hh) && decide (0 < hh2) && decide (lo2 ≤ hh) && decide (lo ≤ hh2)) := by rw [HS.out, hs2]; rfl
              have HOV := Lib.hid hov
              obtain ⟨g6, gf6⟩ := cellsK G6
              have l6 := heap_lt G6
              clear hO hs2 hov
              by_cases h1 : 0 < hh
              · by_cases h2 : 0 < hh2
                · by_cases h3 : lo2 ≤ hh
                  · by_cases h4 : lo ≤ hh2
                    · have hA : okI ss i = false := by
                        unfold okI; rw [← Bool.not_eq_true, List.all_eq_true]; intro hh'; have := hh' k (List.mem_range.2 hki)
                        rw [HOV.out] at this; simp [h1, h2, h3, h4] at this
                      have hA2 := (HBI i hlt hA).out
                      subst hA2
                      clear HOV hA
                      go_wp2_with fail
                      go_ret
                      exact ⟨rfl, ext_trans X2 (ext_alloc hX3 _)⟩
                    · have HK2 : Hid (∀ j, j < k + 1 → ovl (spn ss i) (spn ss j) = false) := Lib.hid (fun j hj => by
                        by_cases e : j = k
                        · subst e; rw [HOV.out]; simp only [Bool.and_eq_false_iff, decide_eq_false_iff_not]; omega
                        · exact HK.out j (by omega))
                      clear HOV HK
                      go_wp2_with fail
                      go_roundw
                      case rel => exact ⟨k + 1, by omega, by go_num, ext_alloc hX3 _, hg_alloc G6, HK2⟩
                      case measure => simp [intOf]; omega
                  · have HK2 : Hid (∀ j, j < k + 1 → ovl (spn ss i) (spn ss j) = false) := Lib.hid (fun j hj => by
                      by_cases e : j = k
                      · subst e; rw [HOV.out]; simp only [Bool.and_eq_false_iff, decide_eq_false_iff_not]; omega
                      · exact HK.out j (by omega))
                    clear HOV HK
                    go_wp2_with fail
                    go_roundw
                    case rel => exact ⟨k + 1, by omega, by go_num, ext_alloc hX3 _, hg_alloc G6, HK2⟩
                    case measure => simp [intOf]; omega
                · have HK2 : Hid (∀ j, j < k + 1 → ovl (spn ss i) (spn ss j) = false) := Lib.hid (fun j hj => by
                    by_cases e : j = k
                    · subst e; rw [HOV.out]; simp only [Bool.and_eq_false_iff, decide_eq_false_iff_not]; omega
                    · exact HK.out j (by omega))
                  clear HOV HK
                  go_wp2_with fail
                  go_roundw
                  case rel => exact ⟨k + 1, by omega, by go_num, ext_alloc hX3 _, hg_alloc G6, HK2⟩
                  case measure => simp [intOf]; omega
              · have HK2 : Hid (∀ j, j < k + 1 → ovl (spn ss i) (spn ss j) = false) := Lib.hid (fun j hj => by
                  by_cases e : j = k
                  · subst e; rw [HOV.out]; simp only [Bool.and_eq_false_iff, decide_eq_false_iff_not]; omega
                  · exact HK.out j (by omega))
                clear HOV HK
                go_wp2_with fail
                go_roundw
                case rel => exact ⟨k + 1, by omega, by go_num, ext_alloc hX3 _, hg_alloc G6, HK2⟩
                case measure => simp [intOf]; omega
            · obtain rfl : k = i := by omega
              have HI2 : Hid (∀ j, j < k + 1 → okI ss j = true) := Lib.hid (fun j hj => by
                by_cases e : j = k
                · subst e; unfold okI; rw [List.all_eq_true]; intro m hm; rw [HK.out m (List.mem_range.1 hm)]; rfl
                · exact hI j (by omega))
              clear HK hI HI
              go_wp2_with fail
              go_roundw
              case rel => exact ⟨k + 1, by omega, by go_num, by rw [HNX.out], hX3, HI2⟩
              case measure => simp [intOf]; omega
      · obtain rfl : i = 4 := by omega
        have HE1 := HE HI.out
        rw [show ((4 : Nat) : Int) = 4 from rfl]
        obtain ⟨nw, hnw⟩ : ∃ nw, newN ss 4 = nw := ⟨_, rfl⟩
        rw [hnw]
        have HNW := Lib.hid hnw
        clear hnw HBI HI HE
        go_wp2_with fail
        have HOK0 : Hid (∀ j, j < 0 → okP f ss j = true) := Lib.hid (fun j hj => absurd hj (Nat.not_lt_zero _))
        go_loopw [9, 62] (fun n y wr => ∃ i : Nat, i ≤ 4 ∧ y = .int .i64 i ∧ n = .int .i64 (cntP f i) ∧ Ext w2 wr ∧ Hid (∀ j, j < i → okP f ss j = true)) (fun _ y _ => 4 - (intOf y).toNat)
        case atStart => exact ⟨0, by omega, rfl, rfl, hX, HOK0⟩
        case round =>
          clear HOK0 hX
          obtain ⟨i, hi, rfl, rfl, hX, HI⟩ := hrel
          by_cases hlt : i < 4
          · have hil : i < ss.length := by have := HL.out; omega
            have hif : i < f.length := by have := H4.out; omega
            obtain ⟨c0, c1⟩ := (HO.out.ext hX).two' hil
            rw [Nat.zero_add, spn_get hil] at c0 c1
            obtain ⟨b, o, pv, rfl, hb, hpp, h0, h1⟩ := h.at2 hif
            have hb' : b < w.heap.size := hb
            obtain ⟨pa, pcap, rfl⟩ := hpp.form
            obtain ⟨hc, hf⟩ := bcell (ext_trans X2 hX)
            have hblk : blk f i = f[i] := by unfold blk; rw [List.getD_eq_getElem?_getD, List.getElem?_eq_getElem hif]; rfl
            have hcs := cntP_succ f i hif
            have hpu := fun (w' : World) (hx : Ext wr w') => partlyUsed_c (.slice pa f[i].pages.length pcap) f[i].pages f[i].worn w' (hpp.ext (ext_trans (ext_trans X2 hX) hx)) (HP.out f[i] (List.getElem_mem _))
            have hok : okP f ss i = !(partB f[i].pages && decide (0 < (spn ss i).2) && decide ((spn ss i).2 < nw)) := by unfold okP; rw [hblk, HNW.out]
            rw [hblk] at hcs
            obtain ⟨cb0, cb1⟩ := cntP_bd f i
            obtain ⟨lo, hh, hs⟩ : ∃ lo hh, spn ss i = (lo, hh) := ⟨_, _, rfl⟩
            rw [hs] at c0 c1 hok
            dsimp only at c0 c1 hok
            generalize partB f[i].pages = pb at *
            have HCS := Lib.hid hcs
            have HOK := Lib.hid hok
            have l1 := cell_lt c1
            clear hs hblk hcs hok
            go_wp2_with fail
            refine (hpu _ (ext_alloc (ext_refl _) _)).mono ?_; rintro e3 w3 ⟨rfl, hx3⟩
            have X3 := ext_trans (ext_alloc (ext_refl wr) _) hx3
            have d1 := cell_ext X3 c1
            clear hpu hc hf h0 h1 c0 c1 hx3
            cases pb
            · have HK2 : Hid (∀ j, j < i + 1 → okP f ss j = true) := Lib.hid (fun j hj => by
                by_cases e : j = i
                · subst e; rw [HOK.out]; simp only [Bool.not_eq_true', Bool.and_eq_false_iff, decide_eq_false_iff_not, Bool.true_and, Bool.false_and]; first | done | omega
                · exact HI.out j (by omega))
              clear HOK HI
              go_wp2_with fail
              go_roundw
              case rel => exact ⟨i + 1, by omega, by go_num, by rw [HCS.out]; simp, ext_trans hX X3, HK2⟩
              case measure => simp [intOf]; omega
            · by_cases h1 : 0 < hh
              · by_cases h2 : hh < nw
                · have hA : okP f ss i = false := by rw [HOK.out]; simp [h1, h2]
                  have hA2 := (HBP i hlt hA).out
                  subst hA2
                  clear HOK hA
                  go_wp2_with fail
                  go_ret
                  exact ⟨rfl, ext_trans (ext_trans X2 hX) X3⟩
                · have HK2 : Hid (∀ j, j < i + 1 → okP f ss j = true) := Lib.hid (fun j hj => by
                    by_cases e : j = i
                    · subst e; rw [HOK.out]; simp only [Bool.not_eq_true', Bool.and_eq_false_iff, decide_eq_false_iff_not, Bool.true_and, Bool.false_and]; first | done | omega
                    · exact HI.out j (by omega))
                  clear HOK HI
                  go_wp2_with fail
                  go_roundw
                  case rel => exact ⟨i + 1, by omega, by go_num, by rw [HCS.out]; simp, ext_trans hX X3, HK2⟩
                  case measure => simp [intOf]; omega
              · have HK2 : Hid (∀ j, j < i + 1 → okP f ss j = true) := Lib.hid (fun j hj => by
                  by_cases e : j = i
                  · subst e; rw [HOK.out]; simp only [Bool.not_eq_true', Bool.and_eq_false_iff, decide_eq_false_iff_not, Bool.true_and, Bool.false_and]; first | done | omega
                  · exact HI.out j (by omega))
                clear HOK HI
                go_wp2_with fail
                go_roundw
                case rel => exact ⟨i + 1, by omega, by go_num, by rw [HCS.out]; simp, ext_trans hX X3, HK2⟩
                case measure => simp [intOf]; omega
          · obtain rfl : i = 4 := by omega
            have hA := (HE1 HI.out).out
            obtain ⟨cb0, cb1⟩ := cntP_bd f 4
            subst hA
            go_wp2_with fail
            go_ret
            exact ⟨rfl, ext_trans X2 hX⟩
  · have hs : orderB f = false := by unfold orderB; rw [Bool.not_eq_true] at hok; rw [hok]; rfl
    rw [Bool.not_eq_true] at hok
    rw [hok] at hFO
    rw [hs]
    clear hs hok
    obtain ⟨a, cap, rfl⟩ := h.form
    go_enter Try.func49, Try.ntmps49
    go_wp2_with fail
    refine (hFO _ (ext_refl _)).mono ?_; rintro e1 w1 ⟨rfl, hx1⟩
    go_wp2_with fail
    go_ret
    exact ⟨rfl, hx1⟩
end Go.Bu
