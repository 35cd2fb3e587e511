/- The last record of an address, as the reference finds it. A flash that is well formed, as the reference asks it: page by page, with the numbers met so far. What the reference finds of a block and of a flash: l3Most, l3Least, l2Clean, l3Next, l3Open, l3Old, l3Live. What follows of a flash that is well formed; blocks in order, as the reference asks it. Stores, as the reference reads them: StoreOk, l11Read, l11Dirty. -/
import Derived.Test.YtemhiidceckeoaaGreatZ1
set_option maxHeartbeats 2000000
set_option linter.unusedVariables false
set_option linter.unusedSimpArgs false
namespace Go.Bu
open Go Go.RowKit Go.Plan Go.Proofs

def lastStep (addr : Int) (r : Rec) (p : Page) : Rec := if p.state = 1 ∧ p.r.addr = addr ∧ r.seq < p.r.seq then p.r else r
def lastP (addr : Int) (r : Rec) (ps : List Page) : Rec := ps.foldl (lastStep addr) r
def rec0 : Rec := ⟨0, 0, 0, 0⟩
def last (f : List Block) (addr : Int) : Rec := f.foldl (fun r b => lastP addr r b.pages) rec0

set_option maxHeartbeats 1000000 in
theorem l3Last_c (v : Value) (f : List Block) (addr : Int) (w : World) (h : Flash (Old w) w v f) (hn : f.length ≤ 1048576) (hp : ∀ b ∈ f, b.pages.length ≤ 1048576) :
    Calls Tryz.prog 69 #[v, .int .i64 addr] w (Ret w (.tuple #[recA (last f addr), .bool (decide (0 < (last f addr).seq))])) := by
  obtain ⟨a, cap, rfl⟩ := h.form
  obtain ⟨A, hA⟩ : ∃ A, last f addr = A := ⟨_, rfl⟩
  rw [hA]
  unfold last at hA
  have HP := Lib.hid hp; clear hp
  have HA := Lib.hid hA; clear hA
  go_enter Tryz.func69, Tryz.ntmps69
  go_wp2
  go_loopw [7] (fun y wr => ∃ (i : Nat) (r : Rec), i ≤ f.length ∧ y = .int .i64 i ∧ Ext w wr ∧ Hid ((f.drop i).foldl (fun r b => lastP addr r b.pages) r = A) ∧
    wr.heap[w.heap.size]? = some (.cells #[.int .i64 0, .int .i64 0, .int .i64 0, .int .i64 0] 86 (0, 0)) ∧ wr.heap[w.heap.size + 1]? = some (.cells #[.int .i64 r.kind, .int .i64 r.seq, .int .i64 r.addr, .int .i64 r.val] 86 (0, 0))) (fun y _ => f.length - (intOf y).toNat)
  case atStart =>
    refine ⟨0, rec0, by omega, rfl, by go_grown, Lib.hid (by simpa using HA.out), ?_, ?_⟩
    · refine hg_alloc (hg_new rfl)
    · refine hg_new (by simp)
  case round =>
    obtain ⟨i, r, hi, rfl, hX, HR, g0, g1⟩ := hrel
    have L1 := heap_lt g1
    by_cases hlt : i < f.length
    · obtain ⟨b, o, pv, rfl, hb, hpp, h0, h1⟩ := h.at2 hlt
      obtain ⟨pa, pcap, rfl⟩ := hpp.form
      obtain ⟨hc, hf⟩ := bcell hX
      have hb' : b < w.heap.size := hb
      have hpl := HP.out f[i] (List.getElem_mem _)
      rw [foldl_drop _ _ _ _ hlt] at HR
      go_wp2
      go_loopw [8] (fun y wr => ∃ (k : Nat) (r : Rec), k ≤ f[i].pages.length ∧ y = .int .i64 k ∧ Ext w wr ∧ Hid ((f.drop (i + 1)).foldl (fun r b => lastP addr r b.pages) ((f[i].pages.drop k).foldl (lastStep addr) r) = A) ∧
        wr.heap[w.heap.size]? = some (.cells #[.int .i64 0, .int .i64 0, .int .i64 0, .int .i64 0] 86 (0, 0)) ∧ wr.heap[w.heap.size + 1]? = some (.cells #[.int .i64 r.kind, .int .i64 r.seq, .int .i64 r.addr, .int .i64 r.val] 86 (0, 0))) (fun y _ => f[i].pages.length - (intOf y).toNat)
      case atStart => exact ⟨0, r, by omega, rfl, hX, HR, g0, g1⟩
      case round =>
        clear hc hf g0 g1 hX HR L1
        obtain ⟨k, r2, hk, rfl, hX, HR, g0, g1⟩ := hrel
        have L1 := heap_lt g1
        obtain ⟨hc, hf⟩ := bcell hX
        obtain ⟨c1, f1⟩ := cellsK g1
        by_cases hlk : k < f[i].pages.length
        · obtain ⟨b2, o2, rfl, hb2, e0, e1, e2, e3, e4⟩ := hpp.at5 hlk
          have hb2' : b2 < w.heap.size := hb2
          rw [foldl_drop _ _ _ _ hlk] at HR
          go_wp2
          all_goals
            refine ⟨⟨k + 1, lastStep addr r2 f[i].pages[k], by omega, by go_num, by go_grown, HR, (by (repeat (first | with_reducible apply hg_here | (with_reducible apply hg_set; focus (dsimp only; omega)) | with_reducible apply hg_alloc)); with_reducible exact g0), hgo (by (repeat (first | with_reducible apply hg_here | (with_reducible apply hg_set; focus (dsimp only; omega)) | with_reducible apply hg_alloc)); with_reducible exact g1) ?_⟩, by simp [intOf]; omega⟩
            try simp only [List.setIfInBounds_toArray, List.set_cons_succ, List.set_cons_zero]
            first | rw [lastStep, if_pos ⟨‹_›, ‹_›, ‹_›⟩] | rw [lastStep, if_neg (by omega)]
            try simp [*]
        · obtain rfl : k = f[i].pages.length := by omega
          rw [foldl_end] at HR
          go_wp2
          exact ⟨⟨i + 1, r2, by omega, by go_num, hX, HR, g0, g1⟩, by simp [intOf]; omega⟩
    · obtain rfl : i = f.length := by omega
      rw [foldl_end] at HR
      have hr := HR.out
      subst hr
      obtain ⟨c0, f0⟩ := cellsK g0
      obtain ⟨c1, f1⟩ := cellsK g1
      go_wp2_with fail
      refine wp_region_st [4] g0 [0, 1, 2, 3, 4, 5] [] [] (by kernel_rfl) (by kernel_rfl) ?late ?_
      case late => exact fun f hf => absurd hf List.not_mem_nil
      refine Rob.y (v := ?_) rfl rfl (fun w1 hx hH => ?_) ?_; rotate_left
      · (obtain ⟨c1, f1⟩ := cellsK (hx.1.keep g1 (by simp))); go_simp; first | done | rfl
      simp only [Act.put, List.setIfInBounds_toArray, List.set_cons_succ, List.set_cons_zero]
      refine Rob.y (v := ?_) rfl rfl (fun w1 hx hH => ?_) ?_; rotate_left
      · go_simp; first | done | rfl | exact (Bool.not_not _).symm
      simp only [Act.put, List.setIfInBounds_toArray, List.set_cons_succ, List.set_cons_zero]
      refine Rob.y (v := ?_) rfl rfl (fun w1 hx hH => ?_) ?_; rotate_left
      · (obtain ⟨c1, f1⟩ := cellsK (hx.1.keep g1 (by simp))); go_simp; first | done | rfl
      simp only [Act.put, List.setIfInBounds_toArray, List.set_cons_succ, List.set_cons_zero]
      refine Rob.y (v := ?_) rfl rfl (fun w1 hx hH => ?_) ?_; rotate_left
      · go_simp; first | done | rfl | exact (Bool.not_not _).symm
      simp only [Act.put, List.setIfInBounds_toArray, List.set_cons_succ, List.set_cons_zero]
      refine Rob.st rfl rfl rfl rfl rfl rfl (by kernel_rfl) (by kernel_rfl) rfl (by omega) (fun lo4 hi4 hlo4 hhi4 => ?_)
      simp only [Act.put, List.setIfInBounds_toArray, List.set_cons_succ, List.set_cons_zero]
      refine Rob.y (v := ?_) rfl rfl (fun w1 hx hH => ?_) ?_; rotate_left
      · go_simp; first | done | rfl | exact (Bool.not_not _).symm
      simp only [Act.put, List.setIfInBounds_toArray, List.set_cons_succ, List.set_cons_zero]
      refine fin_nil (fun w2 hx2 _ => ?_)
      obtain ⟨⟨hC, -⟩, G⟩ := hx2
      obtain ⟨d0, e0⟩ := cellsK G
      have X2 : Ext w w2 := hC.ext hX (by simp)
      clear c0 c1 f0 f1
      go_wp2_with fail
      refine bodyPost_ret (v := .tuple #[recA r, .bool (decide (0 < r.seq))]) (by simp [results, Tryz.results69, go_sem, d0, e0]) rfl ⟨rfl, X2⟩
end Go.Bu

set_option linter.unusedVariables false
set_option linter.unusedSimpArgs false
namespace Go.Bu
open Go Go.RowKit Go.Plan Go.Proofs

def scanP (prev : Bool) (seen : List Int) : List Page → Option (List Int)
  | [] => some seen
  | p :: ps => if !pageOkB p || (prev && p.state != 0) || (p.state == 1 && seen.contains p.r.seq) then none else scanP (p.state == 0) (if p.state == 1 then p.r.seq :: seen else seen) ps
def scanF (seen : List Int) : List Block → Option (List Int)
  | [] => some seen
  | b :: f => if b.pages.length != 4 || !inB b.worn 0 200 then none else (scanP false seen b.pages).bind fun s => scanF s f
def flashOkB (f : List Block) : Bool := f.length == 4 && (scanF [] f).isSome

theorem scanP_drop (prev : Bool) (seen : List Int) (ps : List Page) (k : Nat) (h : k < ps.length) : scanP prev seen (ps.drop k) =
    if !pageOkB ps[k] || (prev && ps[k].state != 0) || (ps[k].state == 1 && seen.contains ps[k].r.seq) then none else scanP (ps[k].state == 0) (if ps[k].state == 1 then ps[k].r.seq :: seen else seen) (ps.drop (k + 1)) := by
  rw [List.drop_eq_getElem_cons h]; rfl
theorem scanF_drop (seen : List Int) (f : List Block) (k : Nat) (h : k < f.length) : scanF seen (f.drop k) =
    if f[k].pages.length != 4 || !inB f[k].worn 0 200 then none else (scanP false seen f[k].pages).bind fun s => scanF s (f.drop (k + 1)) := by
  rw [List.drop_eq_getElem_cons h]; rfl

theorem scanP_stop {prev : Bool} {seen : List Int} {ps : List Page} {k : Nat} {rest : List Block} {A : Bool} (h : ((scanP prev seen (ps.drop k)).bind fun s => scanF s rest).isSome = A) (hk : k < ps.length)
    (hb : (!pageOkB ps[k] || (prev && ps[k].state != 0) || (ps[k].state == 1 && seen.contains ps[k].r.seq)) = true) : A = false := by
  rw [scanP_drop _ _ _ _ hk, if_pos hb] at h; exact h.symm
theorem scanP_go {prev : Bool} {seen : List Int} {ps : List Page} {k : Nat} {rest : List Block} {A : Bool} (n : Int) (u : Bool) (h : ((scanP prev seen (ps.drop k)).bind fun s => scanF s rest).isSome = A) (hk : k < ps.length) (hp : pageOkB ps[k] = true)
    (hn : ps[k].r.seq = n) (hu : (ps[k].state == 1) = u) (h1 : (prev && ps[k].state != 0) = false) (h2 : (u && seen.contains n) = false) :
    ((scanP (decide (0 < k + 1) && (ps[k + 1 - 1]?).any (·.state == 0)) (if u then n :: seen else seen) (ps.drop (k + 1))).bind fun s => scanF s rest).isSome = A := by
  rw [scanP_drop _ _ _ _ hk, hn, hu, if_neg (by rw [hp, h1, h2]; simp)] at h
  rw [← h]; simp [hk]

theorem pageOk_seq {p : Page} (h : pageOkB p = true) : 0 ≤ p.r.seq ∧ p.r.seq ≤ 600 := by
  unfold pageOkB at h
  by_cases hs : p.state = 1
  · rw [if_pos hs] at h
    simp only [recOkB, Bool.and_eq_true, inB_iff] at h
    omega
  · rw [if_neg hs] at h
    simp only [recZ, Bool.and_eq_true, beq_iff_eq] at h
    omega

/-- the numbers that were met -/
def Seen (w : World) (S : Nat) (L : List Int) : Prop := ∃ c T, w.heap[S]? = some (.cells c T (0, 0)) ∧ ∀ n : Nat, n < 601 → c[n]? = some (.bool (L.contains (n : Int)))
theorem Seen.ext {w w' : World} {S : Nat} {L : List Int} (h : Seen w S L) (hx : Ext w w') : Seen w' S L := by obtain ⟨c, T, h1, h2⟩ := h; exact ⟨c, T, keep_ext hx h1, h2⟩
theorem Seen.cell {w : World} {S : Nat} {L : List Int} (h : Seen w S L) {n : Nat} (hn : n < 601) : w.cell? ⟨S, n, none⟩ = some (.bool (L.contains (n : Int))) := by obtain ⟨c, T, h1, h2⟩ := h; rw [cell_block h1]; exact h2 n hn
theorem Seen.frozen {w : World} {S : Nat} {L : List Int} (h : Seen w S L) (n : Nat) : w.frozen? ⟨S, n, none⟩ = false := by obtain ⟨c, T, h1, h2⟩ := h; exact frozen_block h1 n
theorem Seen.lt {w : World} {S : Nat} {L : List Int} (h : Seen w S L) : S < w.heap.size := by obtain ⟨c, T, h1, h2⟩ := h; exact heap_lt h1
theorem Seen.set {w : World} {S : Nat} {L : List Int} (h : Seen w S L) {n : Nat} (hn : n < 601) (b : Bool) (u : Bool) (hu : u = (L.contains (n : Int) || b)) : Seen (w.setCell ⟨S, n, none⟩ (.bool u)) S (if b then (n : Int) :: L else L) := by
  obtain ⟨c, T, h1, h2⟩ := h
  refine ⟨_, T, setCell_block h1, fun m hm => ?_⟩
  subst hu
  by_cases hmn : m = n
  · subst hmn
    have := (Array.getElem?_eq_some_iff.1 (h2 m hm)).1
    rw [Array.getElem?_setIfInBounds_self_of_lt this]
    cases b <;> simp
  · rw [Array.getElem?_setIfInBounds_ne (Ne.symm hmn), h2 m hm]
    cases b
    · simp
    · have : ((m : Int) == (n : Int)) = false := by simp; omega
      simp [this]
      intro h; omega
theorem Seen.made (w : World) (T : TypeId) : Seen (w.alloc (.cells (madeCells #[.bool false] 601) T)) w.heap.size [] := by
  refine ⟨_, T, alloc_get_new rfl, fun n hn => ?_⟩
  simp only [madeCells, Array.getElem?_map, Array.getElem?_range, hn, if_true, Option.map_some]
  simp [Nat.mod_one]

set_option maxRecDepth 20000 in
set_option maxHeartbeats 1000000 in
theorem specFlashOk_c (v : Value) (f : List Block) (w : World) (h : Flash (Old w) w v f) (hn : f.length ≤ 1048576) :
    Calls Tryz.prog 102 #[v] w (Ret w (.bool (flashOkB f))) := by
  obtain ⟨a, cap, rfl⟩ := h.form
  obtain ⟨A, hA⟩ : ∃ A, (scanF [] f).isSome = A := ⟨_, rfl⟩
  unfold flashOkB
  rw [hA]
  have HA := Lib.hid hA; clear hA
  have hmk : ∀ w : World, (Instr.makeSlice 159 (.int .i64 601) (.int .i64 601)).run Tryz.prog w = .ok (.slice (some ⟨w.heap.size, 0, none⟩) 601 601) (w.alloc (.cells (madeCells #[.bool false] 601) 4)) :=
    make_n (P := Tryz.prog) 159 4 #[.bool false] 1 1 Tryz.underlying159 (by kernel_rfl) 601 (by omega) (by omega)
  go_enter Tryz.func102, Tryz.ntmps102
  go_wp2
  clear hmk
  go_loopw [4] (fun y wr => ∃ (i : Nat) (L : List Int), i ≤ f.length ∧ y = .int .i64 i ∧ Ext w wr ∧ Hid (Seen wr w.heap.size L) ∧ Hid ((scanF L (f.drop i)).isSome = A)) (fun y _ => f.length - (intOf y).toNat)
  case atStart => exact ⟨0, [], by omega, rfl, by go_grown, Lib.hid (Seen.made _ _), Lib.hid (by simpa using HA.out)⟩
  case round =>
    obtain ⟨i, L, hi, rfl, hX, HS, HR⟩ := hrel
    by_cases hlt : i < f.length
    · obtain ⟨b, o, pv, rfl, hb, hpp, h0, h1⟩ := h.at2 hlt
      obtain ⟨pa, pcap, rfl⟩ := hpp.form
      obtain ⟨hc, hf⟩ := bcell hX
      have hb' : b < w.heap.size := hb
      rw [scanF_drop _ _ _ hlt] at HR
      by_cases hlen : f[i].pages.length = 4
      · have hnl : (((4 : Nat) : Int) != 4) = false := by decide
        have HL := Lib.hid hlen
        rw [hlen] at h0 hpp
        clear hlen
        by_cases hworn : inB f[i].worn 0 200 = true
        · go_wp2_with (go_at_call 55; refine (l6In_c _ _ _ _).mono ?_; rintro e1 w1 ⟨rfl, rfl⟩; rw [hworn])
          have HRR : Hid (((scanP false L (f[i].pages.drop 0)).bind fun s => scanF s (f.drop (i + 1))).isSome = A) := by
            have := HR.out
            rw [if_neg (by rw [HL.out, hworn]; decide)] at this
            exact this
          clear hworn HR
          go_loopw [5] (fun y wr => ∃ (k : Nat) (L : List Int), k ≤ 4 ∧ y = .int .i64 k ∧ Ext w wr ∧ Hid (Seen wr w.heap.size L) ∧
            Hid (((scanP (decide (0 < k) && ((f[i].pages[k - 1]?).any (·.state == 0))) L (f[i].pages.drop k)).bind fun s => scanF s (f.drop (i + 1))).isSome = A)) (fun y _ => 4 - (intOf y).toNat)
          case atStart => exact ⟨0, L, by omega, rfl, hX, HS, HRR⟩
          case round =>
            clear hX HS HRR hc hf
            obtain ⟨k, L, hk, rfl, hX, HS, HR⟩ := hrel
            obtain ⟨hc, hf⟩ := bcell hX
            by_cases hk4 : k < 4
            · have hkl : k < f[i].pages.length := by have := HL.out; omega
              obtain ⟨b2, o2, rfl, hb2, e0, e1, e2, e3, e4⟩ := hpp.at5 hkl
              have hb2' : b2 < w.heap.size := hb2
              by_cases hpo : pageOkB f[i].pages[k] = true
              · obtain ⟨n, hnq⟩ : ∃ n : Nat, f[i].pages[k].r.seq = n := ⟨f[i].pages[k].r.seq.toNat, by have := (pageOk_seq hpo).1; omega⟩
                have hn6 : n < 601 := by have := (pageOk_seq hpo).2; omega
                rw [hnq] at e2
                have hpc : ∀ w, Calls Tryz.prog 129 #[.agg #[.int .i64 f[i].pages[k].state, .int .i64 f[i].pages[k].r.kind, .int .i64 n, .int .i64 f[i].pages[k].r.addr, .int .i64 f[i].pages[k].r.val]] w (Ret w (.bool true)) := by
                  intro w
                  have := specPageOk_c f[i].pages[k] w
                  rw [hpo] at this
                  simp only [pageA, hnq] at this
                  exact this
                have HPC := Lib.hid hpc; have HPO := Lib.hid hpo; have HNQ := Lib.hid hnq
                have sc := HS.out.cell hn6
                have sf := HS.out.frozen n
                have hn7 : ((n : Nat) : Int) < 601 := by omega
                have LS := HS.out.lt
                clear hpc hpo hnq
                rcases k with _ | m
                · simp only [Nat.zero_mul, Nat.add_zero] at e0 e1 e2 e3 e4
                  have HM := Lib.hid (rfl : (0 : Nat) = 0)
                  go_wp2_with (go_at_call 129; (with_reducible refine (HPC.out _).mono ?_); rintro e5 w5 ⟨rfl, hx5⟩; obtain ⟨hc5, hf5, hz5, hX5⟩ := after1 hx5; have hz6 := Nat.lt_trans LS hz5; obtain ⟨hb5, hg5⟩ := bcell (ext_trans hX hX5))
                  all_goals try
                    go_ret
                    have hA := scanP_stop HR.out hkl (by rw [HPO.out, HNQ.out]; first | (simp [HM.out, *]; done) | (simp [HM.out, *]; rename_i hq; exact hq.resolve_left (by simp; assumption)))
                    exact ⟨by rw [hA]; simp, ext_trans hX hX5⟩
                  all_goals
                    have HS5 := Lib.hid (HS.out.ext hX5)
                    refine wp_region_ext [] [0, 1, 2, 3, 4, 5, 6, 7, 8, 9, 10, 11, 12, 13, 14, 15] [] [16] (by kernel_rfl) (by kernel_rfl) ?late ?_
                    case late => exact fun f hf => absurd hf List.not_mem_nil
                    iterate 3
                      refine Rob.y (v := ?_) rfl rfl (fun w1 hx hH => ?_) ?_; rotate_left
                      · go_simp; first | done | rfl | exact (Bool.not_not _).symm
                      simp only [Act.put, List.setIfInBounds_toArray, List.set_cons_succ, List.set_cons_zero]
                    refine Rob.y (v := ?_) rfl rfl (fun w1 hx hH => ?_) ?_; rotate_left
                    · (obtain ⟨hcx, hfx⟩ := bcell hx); go_simp; first | done | rfl
                    simp only [Act.put, List.setIfInBounds_toArray, List.set_cons_succ, List.set_cons_zero]
                    iterate 3
                      refine Rob.y (v := ?_) rfl rfl (fun w1 hx hH => ?_) ?_; rotate_left
                      · go_simp; first | done | rfl | exact (Bool.not_not _).symm
                      simp only [Act.put, List.setIfInBounds_toArray, List.set_cons_succ, List.set_cons_zero]
                    iterate 3
                      refine Rob.y (v := ?_) rfl rfl (fun w1 hx hH => ?_) ?_; rotate_left
                      · (obtain ⟨hcx, hfx⟩ := bcell hx); go_simp; first | done | rfl
                      simp only [Act.put, List.setIfInBounds_toArray, List.set_cons_succ, List.set_cons_zero]
                    refine Rob.yB (b := ?_) rfl rfl (fun w1 hx hH => ?_) (fun hb10 => ?_) (fun hb10 => ?_); rotate_left
                    · go_simp; first | done | rfl | exact (Bool.not_not _).symm
                    focus
                      try contradiction
                      all_goals
                        simp only [Act.put, List.setIfInBounds_toArray, List.set_cons_succ, List.set_cons_zero]
                        iterate 3
                          refine Rob.no rfl rfl ?_
                          simp only [Act.put, List.setIfInBounds_toArray, List.set_cons_succ, List.set_cons_zero]
                        refine Rob.y (v := ?_) rfl rfl (fun w1 hx hH => ?_) ?_; rotate_left
                        · go_simp; first | done | rfl | exact (Bool.not_not _).symm
                        simp only [Act.put, List.setIfInBounds_toArray, List.set_cons_succ, List.set_cons_zero]
                        refine Rob.y (v := ?_) rfl rfl (fun w1 hx hH => ?_) ?_; rotate_left
                        · (obtain ⟨hcx, hfx⟩ := bcell hx); go_simp; first | done | rfl
                        simp only [Act.put, List.setIfInBounds_toArray, List.set_cons_succ, List.set_cons_zero]
                    rotate_right
                    focus
                      try contradiction
                      all_goals
                        simp only [Act.put, List.setIfInBounds_toArray, List.set_cons_succ, List.set_cons_zero]
                        refine Rob.yg (v := ?_) rfl rfl (fun w1 hx hH => ?_) ?_; rotate_left
                        · go_simp; first | done | rfl | exact (Bool.not_not _).symm
                        simp only [Act.put, List.setIfInBounds_toArray, List.set_cons_succ, List.set_cons_zero]
                        refine Rob.yg (v := ?_) rfl rfl (fun w1 hx hH => ?_) ?_; rotate_left
                        · (obtain ⟨hcx, hfx⟩ := bcell hx); go_simp; first | done | rfl
                        simp only [Act.put, List.setIfInBounds_toArray, List.set_cons_succ, List.set_cons_zero]
                        refine Rob.yg (v := ?_) rfl rfl (fun w1 hx hH => ?_) ?_; rotate_left
                        · go_simp; first | done | rfl | exact (Bool.not_not _).symm
                        simp only [Act.put, List.setIfInBounds_toArray, List.set_cons_succ, List.set_cons_zero]
                        refine Rob.y (v := ?_) rfl rfl (fun w1 hx hH => ?_) ?_; rotate_left
                        · go_simp; first | done | rfl | exact (Bool.not_not _).symm
                        simp only [Act.put, List.setIfInBounds_toArray, List.set_cons_succ, List.set_cons_zero]
                        refine Rob.y (v := ?_) rfl rfl (fun w1 hx hH => ?_) ?_; rotate_left
                        · (obtain ⟨hcx, hfx⟩ := bcell hx); go_simp; first | done | rfl
                        simp only [Act.put, List.setIfInBounds_toArray, List.set_cons_succ, List.set_cons_zero]
                    all_goals
                      refine fin_tail (fun w6 hx6 _ => ?_)
                      simp only [dstOf, List.getElem?_cons_succ, List.getElem?_cons_zero, Option.bind_some, Act.put, List.setIfInBounds_toArray, List.set_cons_succ, List.set_cons_zero, List.filterMap_cons, List.filterMap_nil]
                      have sc6 := (HS5.out.ext hx6).cell hn6
                      have sf6 := (HS5.out.ext hx6).frozen n
                      have X6 := ext_trans hX (ext_trans hX5 hx6)
                      refine wpList_plain rfl (fun K hK => ?_)
                      go_simp
                      refine hK _ _ ?_
                      clear hK K
                      refine wpList_nil ?_
                      go_wp2
                      refine ⟨⟨0 + 1, _, by omega, by go_num, ext_set X6 (Nat.le_refl _) _, Lib.hid ((HS5.out.ext hx6).set hn6 (f[i].pages[0].state == 1) _ (by simp [*])), Lib.hid (scanP_go n _ HR.out hkl HPO.out HNQ.out rfl (by simp [HM.out, *]) (by simp [*]))⟩, by simp [intOf]; try omega⟩
                · obtain ⟨b3, o3, heq, hb3, d0, -⟩ := hpp.at5 (k := m) (by omega)
                  simp only [Option.some.injEq, Addr.mk.injEq, and_true] at heq
                  obtain ⟨rfl, rfl⟩ := heq
                  have HM := Lib.hid (List.getElem?_eq_getElem (l := f[i].pages) (i := m) (by omega))
                  go_wp2_with (go_at_call 129; (with_reducible refine (HPC.out _).mono ?_); rintro e5 w5 ⟨rfl, hx5⟩; obtain ⟨hc5, hf5, hz5, hX5⟩ := after1 hx5; have hz6 := Nat.lt_trans LS hz5; obtain ⟨hb5, hg5⟩ := bcell (ext_trans hX hX5))
                  all_goals try
                    go_ret
                    have hA := scanP_stop HR.out hkl (by rw [HPO.out, HNQ.out]; first | (simp [HM.out, *]; done) | (simp [HM.out, *]; rename_i hq; exact hq.resolve_left (by simp; assumption)))
                    exact ⟨by rw [hA]; simp, ext_trans hX hX5⟩
                  all_goals
                    have HS5 := Lib.hid (HS.out.ext hX5)
                    refine wp_region_ext [] [0, 1, 2, 3, 4, 5, 6, 7, 8, 9, 10, 11, 12, 13, 14, 15] [] [16] (by kernel_rfl) (by kernel_rfl) ?late ?_
                    case late => exact fun f hf => absurd hf List.not_mem_nil
                    iterate 3
                      refine Rob.y (v := ?_) rfl rfl (fun w1 hx hH => ?_) ?_; rotate_left
                      · go_simp; first | done | rfl | exact (Bool.not_not _).symm
                      simp only [Act.put, List.setIfInBounds_toArray, List.set_cons_succ, List.set_cons_zero]
                    refine Rob.y (v := ?_) rfl rfl (fun w1 hx hH => ?_) ?_; rotate_left
                    · (obtain ⟨hcx, hfx⟩ := bcell hx); go_simp; first | done | rfl
                    simp only [Act.put, List.setIfInBounds_toArray, List.set_cons_succ, List.set_cons_zero]
                    iterate 3
                      refine Rob.y (v := ?_) rfl rfl (fun w1 hx hH => ?_) ?_; rotate_left
                      · go_simp; first | done | rfl | exact (Bool.not_not _).symm
                      simp only [Act.put, List.setIfInBounds_toArray, List.set_cons_succ, List.set_cons_zero]
                    iterate 3
                      refine Rob.y (v := ?_) rfl rfl (fun w1 hx hH => ?_) ?_; rotate_left
                      · (obtain ⟨hcx, hfx⟩ := bcell hx); go_simp; first | done | rfl
                      simp only [Act.put, List.setIfInBounds_toArray, List.set_cons_succ, List.set_cons_zero]
                    refine Rob.yB (b := ?_) rfl rfl (fun w1 hx hH => ?_) (fun hb10 => ?_) (fun hb10 => ?_); rotate_left
                    · go_simp; first | done | rfl | exact (Bool.not_not _).symm
                    focus
                      try contradiction
                      all_goals
                        simp only [Act.put, List.setIfInBounds_toArray, List.set_cons_succ, List.set_cons_zero]
                        iterate 3
                          refine Rob.no rfl rfl ?_
                          simp only [Act.put, List.setIfInBounds_toArray, List.set_cons_succ, List.set_cons_zero]
                        refine Rob.y (v := ?_) rfl rfl (fun w1 hx hH => ?_) ?_; rotate_left
                        · go_simp; first | done | rfl | exact (Bool.not_not _).symm
                        simp only [Act.put, List.setIfInBounds_toArray, List.set_cons_succ, List.set_cons_zero]
                        refine Rob.y (v := ?_) rfl rfl (fun w1 hx hH => ?_) ?_; rotate_left
                        · (obtain ⟨hcx, hfx⟩ := bcell hx); go_simp; first | done | rfl
                        simp only [Act.put, List.setIfInBounds_toArray, List.set_cons_succ, List.set_cons_zero]
                    rotate_right
                    focus
                      try contradiction
                      all_goals
                        simp only [Act.put, List.setIfInBounds_toArray, List.set_cons_succ, List.set_cons_zero]
                        refine Rob.yg (v := ?_) rfl rfl (fun w1 hx hH => ?_) ?_; rotate_left
                        · go_simp; first | done | rfl | exact (Bool.not_not _).symm
                        simp only [Act.put, List.setIfInBounds_toArray, List.set_cons_succ, List.set_cons_zero]
                        refine Rob.yg (v := ?_) rfl rfl (fun w1 hx hH => ?_) ?_; rotate_left
                        · (obtain ⟨hcx, hfx⟩ := bcell hx); go_simp; first | done | rfl
                        simp only [Act.put, List.setIfInBounds_toArray, List.set_cons_succ, List.set_cons_zero]
                        refine Rob.yg (v := ?_) rfl rfl (fun w1 hx hH => ?_) ?_; rotate_left
                        · go_simp; first | done | rfl | exact (Bool.not_not _).symm
                        simp only [Act.put, List.setIfInBounds_toArray, List.set_cons_succ, List.set_cons_zero]
                        refine Rob.y (v := ?_) rfl rfl (fun w1 hx hH => ?_) ?_; rotate_left
                        · go_simp; first | done | rfl | exact (Bool.not_not _).symm
                        simp only [Act.put, List.setIfInBounds_toArray, List.set_cons_succ, List.set_cons_zero]
                        refine Rob.y (v := ?_) rfl rfl (fun w1 hx hH => ?_) ?_; rotate_left
                        · (obtain ⟨hcx, hfx⟩ := bcell hx); go_simp; first | done | rfl
                        simp only [Act.put, List.setIfInBounds_toArray, List.set_cons_succ, List.set_cons_zero]
                    all_goals
                      refine fin_tail (fun w6 hx6 _ => ?_)
                      simp only [dstOf, List.getElem?_cons_succ, List.getElem?_cons_zero, Option.bind_some, Act.put, List.setIfInBounds_toArray, List.set_cons_succ, List.set_cons_zero, List.filterMap_cons, List.filterMap_nil]
                      have sc6 := (HS5.out.ext hx6).cell hn6
                      have sf6 := (HS5.out.ext hx6).frozen n
                      have X6 := ext_trans hX (ext_trans hX5 hx6)
                      refine wpList_plain rfl (fun K hK => ?_)
                      go_simp
                      refine hK _ _ ?_
                      clear hK K
                      refine wpList_nil ?_
                      go_wp2
                      refine ⟨⟨(m + 1) + 1, _, by omega, by go_num, ext_set X6 (Nat.le_refl _) _, Lib.hid ((HS5.out.ext hx6).set hn6 (f[i].pages[(m + 1)].state == 1) _ (by simp [*])), Lib.hid (scanP_go n _ HR.out hkl HPO.out HNQ.out rfl (by simp [HM.out, *]) (by simp [*]))⟩, by simp [intOf]; try omega⟩
              · have hpf : pageOkB f[i].pages[k] = false := by simpa using hpo
                clear hpo
                go_wp2_with (go_at_call 129; (with_reducible refine (specPageOk_c f[i].pages[k] _).mono ?_); rintro e5 w5 ⟨rfl, hx5⟩; obtain ⟨hc5, hf5, hz5, hX5⟩ := after1 hx5; rw [hpf])
                go_ret
                have hA := scanP_stop HR.out hkl (by rw [hpf]; simp)
                exact ⟨by rw [hA]; simp, ext_trans hX hX5⟩
            · obtain rfl : k = 4 := by omega
              have hR := HR.out
              rw [List.drop_eq_nil_of_le (by have := HL.out; omega)] at hR
              have hR2 : (scanF L (f.drop (i + 1))).isSome = A := hR
              have HR2 := Lib.hid hR2
              clear hR hR2
              go_wp2_with fail
              exact ⟨⟨i + 1, L, by omega, by go_num, hX, HS, HR2⟩, by simp [intOf]; omega⟩
        · have hw' : inB f[i].worn 0 200 = false := by simpa using hworn
          go_wp2_with (go_at_call 55; refine (l6In_c _ _ _ _).mono ?_; rintro e1 w1 ⟨rfl, rfl⟩; rw [hw'])
          go_ret
          have := HR.out
          rw [if_pos (by rw [hw']; simp)] at this
          exact ⟨by rw [← this]; simp, hX⟩
      · have hnl : (((f[i].pages.length : Nat) : Int) != 4) = true := by simp; omega
        have hnl2 : (f[i].pages.length != 4) = true := by simpa using hlen
        have HN := Lib.hid hnl2; clear hnl2
        go_wp2_with fail
        go_ret
        have := HR.out
        rw [if_pos (by rw [HN.out]; rfl)] at this
        exact ⟨by rw [← this]; simp, hX⟩
    · obtain rfl : i = f.length := by omega
      have hr := HR.out
      rw [List.drop_length] at hr
      simp only [scanF, Option.isSome_some] at hr
      subst hr
      go_wp2
      go_ret
      refine ⟨?_, hX⟩
      show Ending.returned (.bool (((f.length : Nat) : Int) == 4)) = _
      rw [Bool.and_true, show (((f.length : Nat) : Int) == 4) = (f.length == 4) from by rw [Bool.eq_iff_iff]; simp; omega]
end Go.Bu

set_option linter.unusedVariables false
set_option linter.unusedSimpArgs false
namespace Go.Bu
open Go Go.RowKit Go.Plan Go.Proofs

def mostStep (n : Int) (p : Page) : Int := if n < p.r.seq then p.r.seq else n
def most (ps : List Page) : Int := ps.foldl mostStep 0
def leastStep (n : Int) (p : Page) : Int := if 0 < p.r.seq ∧ (n = 0 ∨ p.r.seq < n) then p.r.seq else n
def least (ps : List Page) : Int := ps.foldl leastStep 0
def cleanStep (n : Int) (p : Page) : Int := if p.state = 0 then n + 1 else n
def cleanN (ps : List Page) : Int := ps.foldl cleanStep 0
def nextStep (n : Int) (b : Block) : Int := if n < most b.pages then most b.pages else n
def maxSeq (f : List Block) : Int := f.foldl nextStep 0
def next (f : List Block) : Int := maxSeq f + 1

set_option maxHeartbeats 400000 in
theorem l3Most_c (pv : Value) (ps : List Page) (worn : Int) (w : World) (h : Pages (Old w) w pv ps) (hn : ps.length ≤ 1048576) :
    Calls Tryz.prog 103 #[.agg #[pv, .int .i64 worn]] w (Ret w (.int .i64 (most ps))) := by
  obtain ⟨a, cap, rfl⟩ := h.form
  obtain ⟨A, hA⟩ : ∃ A, most ps = A := ⟨_, rfl⟩
  rw [hA]
  unfold most at hA
  have HA := Lib.hid hA; clear hA
  go_enter Tryz.func103, Tryz.ntmps103
  go_wp2
  go_loop [3, 4] (fun n y => ∃ (k : Nat) (m : Int), k ≤ ps.length ∧ y = .int .i64 k ∧ n = .int .i64 m ∧ Hid ((ps.drop k).foldl mostStep m = A)) (fun _ y => ps.length - (intOf y).toNat)
  case atStart => exact ⟨0, 0, by omega, rfl, rfl, HA⟩
  case round =>
    obtain ⟨k, m, hk, rfl, rfl, HR⟩ := hrel
    by_cases hlt : k < ps.length
    · obtain ⟨b, o, rfl, hb, e0, e1, e2, e3, e4⟩ := h.at5 hlt
      have hb' : b < w.heap.size := hb
      rw [foldl_drop _ _ _ _ hlt] at HR
      go_wp2
      exact ⟨⟨k + 1, _, by omega, by go_num, rfl, HR⟩, by simp [intOf]; omega⟩
    · obtain rfl : k = ps.length := by omega
      rw [foldl_end] at HR
      have hr := HR.out
      subst hr
      go_wp2
      go_ret
      exact ⟨rfl, by go_grown⟩

set_option maxHeartbeats 400000 in
theorem l3Least_c (pv : Value) (ps : List Page) (worn : Int) (w : World) (h : Pages (Old w) w pv ps) (hn : ps.length ≤ 1048576) :
    Calls Tryz.prog 104 #[.agg #[pv, .int .i64 worn]] w (Ret w (.int .i64 (least ps))) := by
  obtain ⟨a, cap, rfl⟩ := h.form
  obtain ⟨A, hA⟩ : ∃ A, least ps = A := ⟨_, rfl⟩
  rw [hA]
  unfold least at hA
  have HA := Lib.hid hA; clear hA
  go_enter Tryz.func104, Tryz.ntmps104
  go_wp2
  go_loop [3, 4] (fun n y => ∃ (k : Nat) (m : Int), k ≤ ps.length ∧ y = .int .i64 k ∧ n = .int .i64 m ∧ Hid ((ps.drop k).foldl leastStep m = A)) (fun _ y => ps.length - (intOf y).toNat)
  case atStart => exact ⟨0, 0, by omega, rfl, rfl, HA⟩
  case round =>
    obtain ⟨k, m, hk, rfl, rfl, HR⟩ := hrel
    by_cases hlt : k < ps.length
    · obtain ⟨b, o, rfl, hb, e0, e1, e2, e3, e4⟩ := h.at5 hlt
      have hb' : b < w.heap.size := hb
      rw [foldl_drop _ _ _ _ hlt] at HR
      go_wp2
      all_goals
        try simp only [beq_iff_eq, Bool.not_eq_true, beq_eq_false_iff_ne, ne_eq, bne_iff_ne, bne_eq_false_iff_eq, decide_eq_true_eq, decide_eq_false_iff_not] at *
        refine ⟨⟨k + 1, leastStep m ps[k], by omega, by go_num, ?_, HR⟩, by simp [intOf]; omega⟩
        first | rw [leastStep, if_pos ⟨by omega, by omega⟩] | rw [leastStep, if_neg (by omega)]
    · obtain rfl : k = ps.length := by omega
      rw [foldl_end] at HR
      have hr := HR.out
      subst hr
      go_wp2
      go_ret
      exact ⟨rfl, by go_grown⟩

set_option maxHeartbeats 400000 in
theorem l2Clean_c (pv : Value) (ps : List Page) (worn : Int) (w : World) (h : Pages (Old w) w pv ps) (hn : ps.length ≤ 1048576) :
    Calls Tryz.prog 105 #[.agg #[pv, .int .i64 worn]] w (Ret w (.int .i64 (cleanN ps))) := by
  obtain ⟨a, cap, rfl⟩ := h.form
  obtain ⟨A, hA⟩ : ∃ A, cleanN ps = A := ⟨_, rfl⟩
  rw [hA]
  unfold cleanN at hA
  have HA := Lib.hid hA; clear hA
  go_enter Tryz.func105, Tryz.ntmps105
  go_wp2
  go_loop [3, 4] (fun n y => ∃ (k : Nat) (m : Int), k ≤ ps.length ∧ y = .int .i64 k ∧ n = .int .i64 m ∧ 0 ≤ m ∧ m ≤ k ∧ Hid ((ps.drop k).foldl cleanStep m = A)) (fun _ y => ps.length - (intOf y).toNat)
  case atStart => exact ⟨0, 0, by omega, rfl, rfl, by omega, by omega, HA⟩
  case round =>
    obtain ⟨k, m, hk, rfl, rfl, hm0, hm1, HR⟩ := hrel
    by_cases hlt : k < ps.length
    · obtain ⟨b, o, rfl, hb, e0, e1, e2, e3, e4⟩ := h.at5 hlt
      have hb' : b < w.heap.size := hb
      rw [foldl_drop _ _ _ _ hlt] at HR
      go_wp2
      all_goals
        try simp only [beq_iff_eq, Bool.not_eq_true, beq_eq_false_iff_ne, ne_eq, bne_iff_ne, bne_eq_false_iff_eq, decide_eq_true_eq, decide_eq_false_iff_not] at *
        refine ⟨⟨k + 1, cleanStep m ps[k], by omega, by go_num, ?_, ?_, ?_, HR⟩, by simp [intOf]; omega⟩
        · first | rw [cleanStep, if_pos (by assumption)] | rw [cleanStep, if_neg (by assumption)]
        · unfold cleanStep; split <;> omega
        · unfold cleanStep; split <;> omega
    · obtain rfl : k = ps.length := by omega
      rw [foldl_end] at HR
      have hr := HR.out
      subst hr
      go_wp2
      go_ret
      exact ⟨rfl, by go_grown⟩

set_option maxHeartbeats 400000 in
theorem l3Next_c (v : Value) (f : List Block) (w : World) (h : Flash (Old w) w v f) (hn : f.length ≤ 1048576) (hp : ∀ b ∈ f, b.pages.length ≤ 1048576) (hs : 0 ≤ maxSeq f ∧ maxSeq f ≤ 1000) :
    Calls Tryz.prog 83 #[v] w (Ret w (.int .i64 (next f))) := by
  obtain ⟨a, cap, rfl⟩ := h.form
  obtain ⟨A, hA⟩ : ∃ A, maxSeq f = A := ⟨_, rfl⟩
  unfold next
  rw [hA] at hs ⊢
  obtain ⟨hs1, hs2⟩ := hs
  unfold maxSeq at hA
  have HA := Lib.hid hA; clear hA
  have HP := Lib.hid hp; clear hp
  go_enter Tryz.func83, Tryz.ntmps83
  go_wp2
  go_loopw [3, 4] (fun n y wr => ∃ (k : Nat) (m : Int), k ≤ f.length ∧ y = .int .i64 k ∧ n = .int .i64 m ∧ Ext w wr ∧ Hid ((f.drop k).foldl nextStep m = A)) (fun _ y _ => f.length - (intOf y).toNat)
  case atStart => exact ⟨0, 0, by omega, rfl, rfl, ext_refl _, HA⟩
  case round =>
    obtain ⟨k, m, hk, rfl, rfl, hX, HR⟩ := hrel
    by_cases hlt : k < f.length
    · obtain ⟨b, o, pv, rfl, hb, hpp, h0, h1⟩ := h.at2 hlt
      obtain ⟨hc, hf⟩ := bcell hX
      have hb' : b < w.heap.size := hb
      rw [foldl_drop _ _ _ _ hlt] at HR
      go_wp2_with fail
      refine (l3Most_c pv f[k].pages _ _ (hpp.ext hX) (HP.out _ (List.getElem_mem _))).mono ?_; rintro e1 w1 ⟨rfl, hx1⟩
      have X1 := ext_trans hX hx1
      go_wp2
      exact ⟨⟨k + 1, _, by omega, by go_num, rfl, X1, HR⟩, by simp [intOf]; omega⟩
    · obtain rfl : k = f.length := by omega
      rw [foldl_end] at HR
      have hr := HR.out
      subst hr
      go_wp2
      go_ret
      exact ⟨rfl, hX⟩

def openStep (f : List Block) (i : Nat) (out : Int) (b : Block) : Int := if 0 < cleanN b.pages ∧ (out < 0 ∨ b.worn < (f[out.toNat]?.map (·.worn)).getD 0) then i else out
/-- the scan of l3Open: from block i on, with the best one so far -/
def openScan (f : List Block) : Nat → Int → List Block → Int × Bool
  | _, out, [] => (if 0 < out then out else 0, decide (0 ≤ out))
  | i, out, b :: rest => if 0 < cleanN b.pages ∧ cleanN b.pages < 4 then ((i : Int), true) else openScan f (i + 1) (openStep f i out b) rest
def openB (f : List Block) : Int × Bool := openScan f 0 (-1) f
theorem openScan_drop (f : List Block) (out : Int) (k : Nat) (h : k < f.length) : openScan f k out (f.drop k) = if 0 < cleanN f[k].pages ∧ cleanN f[k].pages < 4 then ((k : Int), true) else openScan f (k + 1) (openStep f k out f[k]) (f.drop (k + 1)) := by
  rw [List.drop_eq_getElem_cons h]; rfl

set_option maxHeartbeats 1000000 in
theorem l3Open_c (v : Value) (f : List Block) (w : World) (h : Flash (Old w) w v f) (hn : f.length ≤ 1048576) (hp : ∀ b ∈ f, b.pages.length ≤ 1048576) :
    Calls Tryz.prog 118 #[v] w (Ret w (.tuple #[.int .i64 (openB f).1, .bool (openB f).2])) := by
  obtain ⟨a, cap, rfl⟩ := h.form
  obtain ⟨A, hA⟩ : ∃ A, openB f = A := ⟨_, rfl⟩
  rw [hA]
  unfold openB at hA
  have HA := Lib.hid hA; clear hA
  have HP := Lib.hid hp; clear hp
  go_enter Tryz.func118, Tryz.ntmps118
  go_wp2
  go_loopw [4, 5] (fun n y wr => ∃ (k : Nat) (m : Int), k ≤ f.length ∧ y = .int .i64 k ∧ n = .int .i64 m ∧ -1 ≤ m ∧ m < f.length ∧ Ext w wr ∧ Hid (openScan f k m (f.drop k) = A)) (fun _ y _ => f.length - (intOf y).toNat)
  case atStart => exact ⟨0, -1, by omega, rfl, rfl, by omega, by omega, ext_refl _, HA⟩
  case round =>
    obtain ⟨k, m, hk, rfl, rfl, hm0, hm1, hX, HR⟩ := hrel
    by_cases hlt : k < f.length
    · obtain ⟨b, o, pv, rfl, hb, hpp, h0, h1⟩ := h.at2 hlt
      obtain ⟨hc, hf⟩ := bcell hX
      have hb' : b < w.heap.size := hb
      rw [openScan_drop _ _ _ hlt] at HR
      go_wp2_with fail
      refine (l2Clean_c pv f[k].pages _ _ (hpp.ext hX) (HP.out _ (List.getElem_mem _))).mono ?_; rintro e1 w1 ⟨rfl, hx1⟩
      have X1 := ext_trans hX hx1
      obtain ⟨hc1, hf1⟩ := bcell X1
      generalize hcn : cleanN f[k].pages = cn at *
      have HCN := Lib.hid hcn; clear hcn
      by_cases hm : m < 0
      · have hst : openStep f k m f[k] = if 0 < cn then (k : Int) else m := by
          unfold openStep; rw [HCN.out]; by_cases h0 : 0 < cn
          · rw [if_pos ⟨h0, .inl hm⟩, if_pos h0]
          · rw [if_neg (fun h => h0 h.1), if_neg h0]
        have HST := Lib.hid hst; clear hst
        go_wp2
        all_goals try
          go_ret2
          refine ⟨?_, X1⟩
          rw [← HR.out, if_pos ⟨by omega, by omega⟩]
          rfl
        all_goals
          have hr := HR.out
          rw [if_neg (by omega), HST.out] at hr
          have HR2 := Lib.hid hr; clear hr
          refine wp_region_ext [] [0, 1, 2, 3, 4, 5, 6, 7, 8, 9, 10, 11, 12, 13, 14, 15, 16, 17, 18] [] [] (by kernel_rfl) (by kernel_rfl) ?late ?_
          case late => exact fun f hf => absurd hf List.not_mem_nil
          iterate 2
            refine Rob.y (v := ?_) rfl rfl (fun w1 hx hH => ?_) ?_; rotate_left
            · go_simp; first | done | rfl | exact (Bool.not_not _).symm
            simp only [Act.put, List.setIfInBounds_toArray, List.set_cons_succ, List.set_cons_zero]
          refine Rob.yB (b := ?_) rfl rfl (fun w1 hx hH => ?_) (fun hb2 => ?_) (fun hb2 => ?_); rotate_left
          · go_simp; first | done | rfl | exact (Bool.not_not _).symm
          focus
            try contradiction
            all_goals
              simp only [Act.put, List.setIfInBounds_toArray, List.set_cons_succ, List.set_cons_zero]
              iterate 2
                refine Rob.yg (v := ?_) rfl rfl (fun w1 hx hH => ?_) ?_; rotate_left
                · go_simp; first | done | rfl | exact (Bool.not_not _).symm
                simp only [Act.put, List.setIfInBounds_toArray, List.set_cons_succ, List.set_cons_zero]
              refine Rob.yB (b := ?_) rfl rfl (fun w1 hx hH => ?_) (fun hb5 => ?_) (fun hb5 => ?_); rotate_left
              · go_simp; first | done | rfl | exact (Bool.not_not _).symm
              focus
                try contradiction
                all_goals
                  simp only [Act.put, List.setIfInBounds_toArray, List.set_cons_succ, List.set_cons_zero]
                  iterate 11
                    refine Rob.no rfl rfl ?_
                    simp only [Act.put, List.setIfInBounds_toArray, List.set_cons_succ, List.set_cons_zero]
                  refine Rob.yg (v := ?_) rfl rfl (fun w1 hx hH => ?_) ?_; rotate_left
                  · go_simp; first | done | rfl | exact (Bool.not_not _).symm
                  simp only [Act.put, List.setIfInBounds_toArray, List.set_cons_succ, List.set_cons_zero]
                  refine Rob.y (v := ?_) rfl rfl (fun w1 hx hH => ?_) ?_; rotate_left
                  · go_simp; first | done | rfl | exact (Bool.not_not _).symm
                  simp only [Act.put, List.setIfInBounds_toArray, List.set_cons_succ, List.set_cons_zero]
              rotate_right
              focus
                try contradiction
                all_goals
                  simp only [Act.put, List.setIfInBounds_toArray, List.set_cons_succ, List.set_cons_zero]
                  iterate 2
                    refine Rob.yg (v := ?_) rfl rfl (fun w1 hx hH => ?_) ?_; rotate_left
                    · go_simp; first | done | rfl | exact (Bool.not_not _).symm
                    simp only [Act.put, List.setIfInBounds_toArray, List.set_cons_succ, List.set_cons_zero]
                  refine Rob.yg (v := ?_) rfl rfl (fun w1 hx hH => ?_) ?_; rotate_left
                  · (obtain ⟨hcx, hfx⟩ := bcell (ext_trans X1 hx)); go_simp; first | done | rfl
                  simp only [Act.put, List.setIfInBounds_toArray, List.set_cons_succ, List.set_cons_zero]
                  refine Rob.yg (v := ?_) rfl rfl (fun w1 hx hH => ?_) ?_; rotate_left
                  · go_simp; first | done | rfl | exact (Bool.not_not _).symm
                  simp only [Act.put, List.setIfInBounds_toArray, List.set_cons_succ, List.set_cons_zero]
                  refine Rob.yg (v := ?_) rfl rfl (fun w1 hx hH => ?_) ?_; rotate_left
                  · (obtain ⟨hcx, hfx⟩ := bcell (ext_trans X1 hx)); go_simp; first | done | rfl
                  simp only [Act.put, List.setIfInBounds_toArray, List.set_cons_succ, List.set_cons_zero]
                  iterate 2
                    refine Rob.yg (v := ?_) rfl rfl (fun w1 hx hH => ?_) ?_; rotate_left
                    · go_simp; first | done | rfl | exact (Bool.not_not _).symm
                    simp only [Act.put, List.setIfInBounds_toArray, List.set_cons_succ, List.set_cons_zero]
                  refine Rob.yg (v := ?_) rfl rfl (fun w1 hx hH => ?_) ?_; rotate_left
                  · (obtain ⟨hcx, hfx⟩ := bcell (ext_trans X1 hx)); go_simp; first | done | rfl
                  simp only [Act.put, List.setIfInBounds_toArray, List.set_cons_succ, List.set_cons_zero]
                  refine Rob.yg (v := ?_) rfl rfl (fun w1 hx hH => ?_) ?_; rotate_left
                  · go_simp; first | done | rfl | exact (Bool.not_not _).symm
                  simp only [Act.put, List.setIfInBounds_toArray, List.set_cons_succ, List.set_cons_zero]
                  refine Rob.yg (v := ?_) rfl rfl (fun w1 hx hH => ?_) ?_; rotate_left
                  · (obtain ⟨hcx, hfx⟩ := bcell (ext_trans X1 hx)); go_simp; first | done | rfl
                  simp only [Act.put, List.setIfInBounds_toArray, List.set_cons_succ, List.set_cons_zero]
                  iterate 2
                    refine Rob.yg (v := ?_) rfl rfl (fun w1 hx hH => ?_) ?_; rotate_left
                    · go_simp; first | done | rfl | exact (Bool.not_not _).symm
                    simp only [Act.put, List.setIfInBounds_toArray, List.set_cons_succ, List.set_cons_zero]
                  refine Rob.y (v := ?_) rfl rfl (fun w1 hx hH => ?_) ?_; rotate_left
                  · go_simp; first | done | rfl | exact (Bool.not_not _).symm
                  simp only [Act.put, List.setIfInBounds_toArray, List.set_cons_succ, List.set_cons_zero]
          rotate_right
          focus
            try contradiction
            all_goals
              simp only [Act.put, List.setIfInBounds_toArray, List.set_cons_succ, List.set_cons_zero]
              iterate 15
                refine Rob.no rfl rfl ?_
                simp only [Act.put, List.setIfInBounds_toArray, List.set_cons_succ, List.set_cons_zero]
              refine Rob.y (v := ?_) rfl rfl (fun w1 hx hH => ?_) ?_; rotate_left
              · go_simp; first | done | rfl | exact (Bool.not_not _).symm
              simp only [Act.put, List.setIfInBounds_toArray, List.set_cons_succ, List.set_cons_zero]
          all_goals
            refine fin_nil (fun w2 hx2 _ => ?_)
            have X2 := ext_trans X1 hx2
            try simp only [beq_iff_eq, Bool.not_eq_true, beq_eq_false_iff_ne, ne_eq, bne_iff_ne, bne_eq_false_iff_eq, decide_eq_true_eq, decide_eq_false_iff_not] at *
            go_wp2
            all_goals try (exfalso; omega)
            all_goals
              have hr := HR2.out
              first | rw [if_pos (by omega)] at hr | rw [if_neg (by omega)] at hr
              exact ⟨⟨k + 1, _, by omega, by go_num, rfl, by omega, by omega, X2, Lib.hid hr⟩, by simp [intOf]; omega⟩
      · obtain ⟨mm, rfl⟩ : ∃ n : Nat, m = n := ⟨m.toNat, by omega⟩
        obtain ⟨b2, o2, pv2, heq, hb2, hpp2, d0, d1⟩ := h.at2 (k := mm) (by omega)
        simp only [Option.some.injEq, Addr.mk.injEq, and_true] at heq
        obtain ⟨rfl, rfl⟩ := heq
        have hst : openStep f k mm f[k] = if 0 < cn ∧ f[k].worn < f[mm].worn then (k : Int) else mm := by
          unfold openStep; rw [HCN.out, Int.toNat_natCast, List.getElem?_eq_getElem (by omega)]
          simp
          split <;> split <;> first | rfl | (exfalso; omega)
        have HST := Lib.hid hst; clear hst
        go_wp2
        all_goals try
          go_ret2
          refine ⟨?_, X1⟩
          rw [← HR.out, if_pos ⟨by omega, by omega⟩]
          rfl
        all_goals
          have hr := HR.out
          rw [if_neg (by omega), HST.out] at hr
          have HR2 := Lib.hid hr; clear hr
          refine wp_region_ext [] [0, 1, 2, 3, 4, 5, 6, 7, 8, 9, 10, 11, 12, 13, 14, 15, 16, 17, 18] [] [] (by kernel_rfl) (by kernel_rfl) ?late ?_
          case late => exact fun f hf => absurd hf List.not_mem_nil
          iterate 2
            refine Rob.y (v := ?_) rfl rfl (fun w1 hx hH => ?_) ?_; rotate_left
            · go_simp; first | done | rfl | exact (Bool.not_not _).symm
            simp only [Act.put, List.setIfInBounds_toArray, List.set_cons_succ, List.set_cons_zero]
          refine Rob.yB (b := ?_) rfl rfl (fun w1 hx hH => ?_) (fun hb2 => ?_) (fun hb2 => ?_); rotate_left
          · go_simp; first | done | rfl | exact (Bool.not_not _).symm
          focus
            try contradiction
            all_goals
              simp only [Act.put, List.setIfInBounds_toArray, List.set_cons_succ, List.set_cons_zero]
              iterate 2
                refine Rob.yg (v := ?_) rfl rfl (fun w1 hx hH => ?_) ?_; rotate_left
                · go_simp; first | done | rfl | exact (Bool.not_not _).symm
                simp only [Act.put, List.setIfInBounds_toArray, List.set_cons_succ, List.set_cons_zero]
              refine Rob.yB (b := ?_) rfl rfl (fun w1 hx hH => ?_) (fun hb5 => ?_) (fun hb5 => ?_); rotate_left
              · go_simp; first | done | rfl | exact (Bool.not_not _).symm
              focus
                try contradiction
                all_goals
                  simp only [Act.put, List.setIfInBounds_toArray, List.set_cons_succ, List.set_cons_zero]
                  iterate 11
                    refine Rob.no rfl rfl ?_
                    simp only [Act.put, List.setIfInBounds_toArray, List.set_cons_succ, List.set_cons_zero]
                  refine Rob.yg (v := ?_) rfl rfl (fun w1 hx hH => ?_) ?_; rotate_left
                  · go_simp; first | done | rfl | exact (Bool.not_not _).symm
                  simp only [Act.put, List.setIfInBounds_toArray, List.set_cons_succ, List.set_cons_zero]
                  refine Rob.y (v := ?_) rfl rfl (fun w1 hx hH => ?_) ?_; rotate_left
                  · go_simp; first | done | rfl | exact (Bool.not_not _).symm
                  simp only [Act.put, List.setIfInBounds_toArray, List.set_cons_succ, List.set_cons_zero]
              rotate_right
              focus
                try contradiction
                all_goals
                  simp only [Act.put, List.setIfInBounds_toArray, List.set_cons_succ, List.set_cons_zero]
                  iterate 2
                    refine Rob.yg (v := ?_) rfl rfl (fun w1 hx hH => ?_) ?_; rotate_left
                    · go_simp; first | done | rfl | exact (Bool.not_not _).symm
                    simp only [Act.put, List.setIfInBounds_toArray, List.set_cons_succ, List.set_cons_zero]
                  refine Rob.yg (v := ?_) rfl rfl (fun w1 hx hH => ?_) ?_; rotate_left
                  · (obtain ⟨hcx, hfx⟩ := bcell (ext_trans X1 hx)); go_simp; first | done | rfl
                  simp only [Act.put, List.setIfInBounds_toArray, List.set_cons_succ, List.set_cons_zero]
                  refine Rob.yg (v := ?_) rfl rfl (fun w1 hx hH => ?_) ?_; rotate_left
                  · go_simp; first | done | rfl | exact (Bool.not_not _).symm
                  simp only [Act.put, List.setIfInBounds_toArray, List.set_cons_succ, List.set_cons_zero]
                  refine Rob.yg (v := ?_) rfl rfl (fun w1 hx hH => ?_) ?_; rotate_left
                  · (obtain ⟨hcx, hfx⟩ := bcell (ext_trans X1 hx)); go_simp; first | done | rfl
                  simp only [Act.put, List.setIfInBounds_toArray, List.set_cons_succ, List.set_cons_zero]
                  iterate 2
                    refine Rob.yg (v := ?_) rfl rfl (fun w1 hx hH => ?_) ?_; rotate_left
                    · go_simp; first | done | rfl | exact (Bool.not_not _).symm
                    simp only [Act.put, List.setIfInBounds_toArray, List.set_cons_succ, List.set_cons_zero]
                  refine Rob.yg (v := ?_) rfl rfl (fun w1 hx hH => ?_) ?_; rotate_left
                  · (obtain ⟨hcx, hfx⟩ := bcell (ext_trans X1 hx)); go_simp; first | done | rfl
                  simp only [Act.put, List.setIfInBounds_toArray, List.set_cons_succ, List.set_cons_zero]
                  refine Rob.yg (v := ?_) rfl rfl (fun w1 hx hH => ?_) ?_; rotate_left
                  · go_simp; first | done | rfl | exact (Bool.not_not _).symm
                  simp only [Act.put, List.setIfInBounds_toArray, List.set_cons_succ, List.set_cons_zero]
                  refine Rob.yg (v := ?_) rfl rfl (fun w1 hx hH => ?_) ?_; rotate_left
                  · (obtain ⟨hcx, hfx⟩ := bcell (ext_trans X1 hx)); go_simp; first | done | rfl
                  simp only [Act.put, List.setIfInBounds_toArray, List.set_cons_succ, List.set_cons_zero]
                  iterate 2
                    refine Rob.yg (v := ?_) rfl rfl (fun w1 hx hH => ?_) ?_; rotate_left
                    · go_simp; first | done | rfl | exact (Bool.not_not _).symm
                    simp only [Act.put, List.setIfInBounds_toArray, List.set_cons_succ, List.set_cons_zero]
                  refine Rob.y (v := ?_) rfl rfl (fun w1 hx hH => ?_) ?_; rotate_left
                  · go_simp; first | done | rfl | exact (Bool.not_not _).symm
                  simp only [Act.put, List.setIfInBounds_toArray, List.set_cons_succ, List.set_cons_zero]
          rotate_right
          focus
            try contradiction
            all_goals
              simp only [Act.put, List.setIfInBounds_toArray, List.set_cons_succ, List.set_cons_zero]
              iterate 15
                refine Rob.no rfl rfl ?_
                simp only [Act.put, List.setIfInBounds_toArray, List.set_cons_succ, List.set_cons_zero]
              refine Rob.y (v := ?_) rfl rfl (fun w1 hx hH => ?_) ?_; rotate_left
              · go_simp; first | done | rfl | exact (Bool.not_not _).symm
              simp only [Act.put, List.setIfInBounds_toArray, List.set_cons_succ, List.set_cons_zero]
          all_goals
            refine fin_nil (fun w2 hx2 _ => ?_)
            have X2 := ext_trans X1 hx2
            try simp only [beq_iff_eq, Bool.not_eq_true, beq_eq_false_iff_ne, ne_eq, bne_iff_ne, bne_eq_false_iff_eq, decide_eq_true_eq, decide_eq_false_iff_not] at *
            go_wp2
            all_goals try (exfalso; omega)
            all_goals
              have hr := HR2.out
              first | rw [if_pos (by omega)] at hr | rw [if_neg (by omega)] at hr
              exact ⟨⟨k + 1, _, by omega, by go_num, rfl, by omega, by omega, X2, Lib.hid hr⟩, by simp [intOf]; omega⟩
    · obtain rfl : k = f.length := by omega
      rw [List.drop_length, openScan] at HR
      go_wp2
      all_goals
        go_ret2
        refine ⟨?_, hX⟩
        rw [← HR.out]
        simp
        try omega

/-- the scan of l3Old: from block i on, with the eldest one so far -/
def oldScan (f : List Block) : Nat → Nat → List Block → Nat
  | _, out, [] => out
  | i, out, b :: rest => oldScan f (i + 1) (if most b.pages < most ((f[out]?.map (·.pages)).getD []) then i else out) rest
def old (f : List Block) : Nat := oldScan f 1 0 (f.drop 1)
theorem oldScan_drop (f : List Block) (out : Nat) (k : Nat) (h : k < f.length) : oldScan f k out (f.drop k) = oldScan f (k + 1) (if most f[k].pages < most ((f[out]?.map (·.pages)).getD []) then k else out) (f.drop (k + 1)) := by
  rw [List.drop_eq_getElem_cons h]; rfl

set_option maxHeartbeats 1000000 in
theorem l3Old_c (v : Value) (f : List Block) (w : World) (h : Flash (Old w) w v f) (hn : f.length ≤ 1048576) (hp : ∀ b ∈ f, b.pages.length ≤ 1048576) :
    Calls Tryz.prog 119 #[v] w (Ret w (.int .i64 (old f))) := by
  obtain ⟨a, cap, rfl⟩ := h.form
  obtain ⟨A, hA⟩ : ∃ A, old f = A := ⟨_, rfl⟩
  rw [hA]
  unfold old at hA
  have HA := Lib.hid hA; clear hA
  have HP := Lib.hid hp; clear hp
  go_enter Tryz.func119, Tryz.ntmps119
  go_wp2
  go_loopw [3, 4] (fun n y wr => ∃ (k m : Nat), 1 ≤ k ∧ (k ≤ f.length ∨ k = 1) ∧ y = .int .i64 k ∧ n = .int .i64 m ∧ (m < f.length ∨ m = 0) ∧ Ext w wr ∧ Hid (oldScan f k m (f.drop k) = A)) (fun _ y _ => f.length - (intOf y).toNat)
  case atStart => exact ⟨1, 0, by omega, .inr rfl, rfl, rfl, .inr rfl, ext_refl _, HA⟩
  case round =>
    obtain ⟨k, m, hk1, hk, rfl, rfl, hm, hX, HR⟩ := hrel
    by_cases hlt : k < f.length
    · obtain ⟨b, o, pv, rfl, hb, hpp, h0, h1⟩ := h.at2 hlt
      have hm' : m < f.length := by omega
      obtain ⟨b2, o2, pv2, heq, hb2, hpp2, d0, d1⟩ := h.at2 hm'
      simp only [Option.some.injEq, Addr.mk.injEq, and_true] at heq
      obtain ⟨rfl, rfl⟩ := heq
      have hb' : b < w.heap.size := hb
      rw [oldScan_drop _ _ _ hlt, List.getElem?_eq_getElem hm'] at HR
      clear hm hk
      go_wp2_with fail
      refine wp_region_ext [4, 9] [0, 1, 2, 3, 5, 6, 7, 8, 4, 9, 10] [] [] (by kernel_rfl) (by kernel_rfl) ?late ?_
      case late => exact fun f hf => absurd hf List.not_mem_nil
      iterate 2
        refine Rob.y (v := ?_) rfl rfl (fun w1 hx hH => ?_) ?_; rotate_left
        · go_simp; first | done | rfl | exact (Bool.not_not _).symm
        simp only [Act.put, List.setIfInBounds_toArray, List.set_cons_succ, List.set_cons_zero]
      iterate 2
        refine Rob.y (v := ?_) rfl rfl (fun w1 hx hH => ?_) ?_; rotate_left
        · (obtain ⟨hcx, hfx⟩ := bcell (ext_trans hX hx)); go_simp; first | done | rfl
        simp only [Act.put, List.setIfInBounds_toArray, List.set_cons_succ, List.set_cons_zero]
      iterate 2
        refine Rob.y (v := ?_) rfl rfl (fun w1 hx hH => ?_) ?_; rotate_left
        · go_simp; first | done | rfl | exact (Bool.not_not _).symm
        simp only [Act.put, List.setIfInBounds_toArray, List.set_cons_succ, List.set_cons_zero]
      iterate 2
        refine Rob.y (v := ?_) rfl rfl (fun w1 hx hH => ?_) ?_; rotate_left
        · (obtain ⟨hcx, hfx⟩ := bcell (ext_trans hX hx)); go_simp; first | done | rfl
        simp only [Act.put, List.setIfInBounds_toArray, List.set_cons_succ, List.set_cons_zero]
      refine Rob.cv (.int .i64 (most f[k].pages)) rfl rfl rfl (fun _ _ => ext_trans) (fun w1 hx hH => ?_) (fun lo4 hi4 hlo4 hhi4 => ?_)
      · unfold RunTo; go_simp; exact (l3Most_c pv f[k].pages _ _ (hpp.ext (ext_trans hX hx)) (HP.out _ (List.getElem_mem _))).mono fun e w' h => h.to
      simp only [Act.put, List.setIfInBounds_toArray, List.set_cons_succ, List.set_cons_zero]
      refine Rob.cv (.int .i64 (most f[m].pages)) rfl rfl rfl (fun _ _ => ext_trans) (fun w1 hx hH => ?_) (fun lo9 hi9 hlo9 hhi9 => ?_)
      · unfold RunTo; go_simp; exact (l3Most_c pv2 f[m].pages _ _ (hpp2.ext (ext_trans hX hx)) (HP.out _ (List.getElem_mem _))).mono fun e w' h => h.to
      simp only [Act.put, List.setIfInBounds_toArray, List.set_cons_succ, List.set_cons_zero]
      refine Rob.y (v := ?_) rfl rfl (fun w1 hx hH => ?_) ?_; rotate_left
      · go_simp; first | done | rfl | exact (Bool.not_not _).symm
      simp only [Act.put, List.setIfInBounds_toArray, List.set_cons_succ, List.set_cons_zero]
      refine fin_nil (fun w2 hx2 _ => ?_)
      have X2 := ext_trans hX hx2
      go_wp2
      all_goals
        have hr := HR.out
        simp only [Option.map_some, Option.getD_some] at hr
        first | rw [if_pos (by omega)] at hr | rw [if_neg (by omega)] at hr
        exact ⟨⟨k + 1, _, by omega, .inl (by omega), by go_num, rfl, .inl (by omega), X2, Lib.hid hr⟩, by simp [intOf]; omega⟩
    · rw [List.drop_eq_nil_of_le (by omega), oldScan] at HR
      have hr := HR.out
      subst hr
      go_wp2
      go_ret
      exact ⟨rfl, hX⟩

def liveP (f : List Block) (p : Page) : Bool := p.state == 1 && recEq (last f p.r.addr) p.r

set_option maxHeartbeats 1000000 in
theorem l3Live_c (v : Value) (f : List Block) (p : Page) (w : World) (h : Flash (Old w) w v f) (hn : f.length ≤ 1048576) (hp : ∀ b ∈ f, b.pages.length ≤ 1048576) :
    Calls Tryz.prog 120 #[v, pageA p] w (Ret w (.bool (liveP f p))) := by
  have hq : liveP f p = (p.state == 1 && recEq (last f p.r.addr) p.r) := rfl
  have HQ := Lib.hid hq; clear hq
  have HP := Lib.hid hp; clear hp
  go_enter Tryz.func120, Tryz.ntmps120
  go_wp2_with (go_at_call 69; (with_reducible refine (l3Last_c v f p.r.addr _ (h.ext (ext_alloc (ext_refl _) _)) hn HP.out).mono ?_); rintro e1 w1 ⟨rfl, hx⟩; obtain ⟨hc, hf, hz, hX⟩ := after1 hx)
  all_goals
    go_ret
    try simp only [beq_iff_eq, Bool.not_eq_true, beq_eq_false_iff_ne, ne_eq, bne_iff_ne, bne_eq_false_iff_eq, decide_eq_true_eq, decide_eq_false_iff_not] at *
    refine ⟨by rw [HQ.out]; simp [recEq, *], by go_grown⟩
end Go.Bu

set_option linter.unusedVariables false
set_option linter.unusedSimpArgs false
namespace Go.Bu
open Go Go.RowKit Go.Plan Go.Proofs

theorem scanF_blocks : ∀ (f : List Block) (L L' : List Int), scanF L f = some L' → ∀ b ∈ f, b.pages.length = 4 ∧ inB b.worn 0 200 = true ∧ ∃ s s', scanP false s b.pages = some s'
  | [], _, _, _, b, hb => by cases hb
  | x :: f, L, L', h, b, hb => by
    simp only [scanF] at h
    split at h
    · cases h
    · rename_i hc
      simp only [Bool.or_eq_true, bne_iff_ne, ne_eq, Bool.not_eq_true', not_or, Decidable.not_not, Bool.not_eq_false] at hc
      cases hs : scanP false L x.pages with
      | none => rw [hs] at h; cases h
      | some s =>
        rw [hs] at h
        rcases List.mem_cons.1 hb with rfl | hb
        · exact ⟨hc.1, hc.2, L, s, hs⟩
        · exact scanF_blocks f s L' h b hb
theorem scanP_pages : ∀ (ps : List Page) (prev : Bool) (L L' : List Int), scanP prev L ps = some L' → ∀ p ∈ ps, pageOkB p = true
  | [], _, _, _, _, p, hp => by cases hp
  | x :: ps, prev, L, L', h, p, hp => by
    simp only [scanP] at h
    split at h
    · cases h
    · rename_i hc
      simp only [Bool.or_eq_true, not_or, Bool.not_eq_true', Bool.not_eq_false] at hc
      rcases List.mem_cons.1 hp with rfl | hp
      · exact hc.1.1
      · exact scanP_pages ps _ _ L' h p hp

theorem flashOk_len {f : List Block} (h : flashOkB f = true) : f.length = 4 := by simp only [flashOkB, Bool.and_eq_true, beq_iff_eq] at h; exact h.1
theorem flashOk_some {f : List Block} (h : flashOkB f = true) : ∃ L, scanF [] f = some L := by simp only [flashOkB, Bool.and_eq_true] at h; exact Option.isSome_iff_exists.1 h.2
theorem flashOk_block {f : List Block} (h : flashOkB f = true) {b : Block} (hb : b ∈ f) : b.pages.length = 4 ∧ 0 ≤ b.worn ∧ b.worn ≤ 200 ∧ ∀ p ∈ b.pages, pageOkB p = true := by
  obtain ⟨L, hL⟩ := flashOk_some h
  obtain ⟨h1, h2, s, s', h3⟩ := scanF_blocks f [] L hL b hb
  have := inB_iff.1 h2
  exact ⟨h1, this.1, this.2, scanP_pages b.pages false s s' h3⟩

def badPair (i k : Nat) (a b : Block) : Bool :=
  (decide (i ≠ k) && decide (0 < most a.pages) && decide (0 < most b.pages) && decide (least a.pages < most b.pages) && decide (least b.pages < most a.pages)) ||
  (decide (i ≠ k) && decide (0 < cleanN a.pages) && decide (cleanN a.pages < 4) && ((decide (0 < cleanN b.pages) && decide (cleanN b.pages < 4)) || (decide (0 < most a.pages) && decide (most a.pages < most b.pages))))
def orderIn (i : Nat) (a : Block) : Nat → List Block → Bool
  | _, [] => true
  | k, b :: rest => if badPair i k a b then false else orderIn i a (k + 1) rest
def orderOut (f : List Block) : Nat → List Block → Bool
  | _, [] => true
  | i, a :: rest => orderIn i a 0 f && orderOut f (i + 1) rest
def orderB (f : List Block) : Bool := flashOkB f && orderOut f 0 f
theorem orderIn_drop (i : Nat) (a : Block) (f : List Block) (k : Nat) (h : k < f.length) : orderIn i a k (f.drop k) = if badPair i k a f[k] then false else orderIn i a (k + 1) (f.drop (k + 1)) := by
  rw [List.drop_eq_getElem_cons h]; rfl
theorem orderOut_drop (f : List Block) (k : Nat) (h : k < f.length) : orderOut f k (f.drop k) = (orderIn k f[k] 0 f && orderOut f (k + 1) (f.drop (k + 1))) := by
  rw [List.drop_eq_getElem_cons h]; rfl

set_option maxRecDepth 20000 in
set_option maxHeartbeats 4000000 in
theorem specFindOrder_c (v : Value) (f : List Block) (w : World) (h : Flash (Old w) w v f) (hn : f.length ≤ 1048576) :
    Calls Tryz.prog 68 #[v] w (Ret w (.bool (orderB f))) := by
  obtain ⟨a, cap, rfl⟩ := h.form
  cases hok : flashOkB f with
  | false =>
    have hq : orderB f = false := by unfold orderB; rw [hok]; rfl
    rw [hq]
    have HOK := Lib.hid hok; clear hok hq
    go_enter Tryz.func68, Tryz.ntmps68
    go_wp2_with fail
    refine (specFlashOk_c _ f _ h hn).mono ?_; rintro e1 w1 ⟨rfl, hx1⟩
    rw [HOK.out]
    go_wp2
    go_ret
    exact ⟨rfl, hx1⟩
  | true =>
    obtain ⟨A, hA⟩ : ∃ A, orderOut f 0 f = A := ⟨_, rfl⟩
    have hq : orderB f = A := by unfold orderB; rw [hok, hA]; rfl
    rw [hq]
    have HA := Lib.hid hA; clear hA hq
    have HB := Lib.hid (fun b (hb : b ∈ f) => (show b.pages.length ≤ 1048576 from by have := (flashOk_block hok hb).1; omega))
    have HOK := Lib.hid hok; clear hok
    go_enter Tryz.func68, Tryz.ntmps68
    go_wp2_with fail
    refine (specFlashOk_c _ f _ h hn).mono ?_; rintro e1 w1 ⟨rfl, hx1⟩
    rw [HOK.out]
    go_wp2
    go_loopw [3] (fun y wr => ∃ (i : Nat), i ≤ f.length ∧ y = .int .i64 i ∧ Ext w wr ∧ Hid (orderOut f i (f.drop i) = A)) (fun y _ => f.length - (intOf y).toNat)
    case atStart => exact ⟨0, by omega, rfl, hx1, HA⟩
    case round =>
      obtain ⟨i, hi, rfl, hX, HR⟩ := hrel
      by_cases hlt : i < f.length
      · obtain ⟨b, o, pv, rfl, hb, hpp, h0, h1⟩ := h.at2 hlt
        obtain ⟨pa, pcap, rfl⟩ := hpp.form
        have hb' : b < w.heap.size := hb
        have hpl := HB.out f[i] (List.getElem_mem _)
        rw [orderOut_drop _ _ hlt] at HR
        have HR2 : Hid ((orderIn i f[i] 0 (f.drop 0) && orderOut f (i + 1) (f.drop (i + 1))) = A) := HR
        clear HR
        go_wp2
        go_loopw [4] (fun y wr => ∃ (k : Nat), k ≤ f.length ∧ y = .int .i64 k ∧ Ext w wr ∧ Hid ((orderIn i f[i] k (f.drop k) && orderOut f (i + 1) (f.drop (i + 1))) = A)) (fun y _ => f.length - (intOf y).toNat)
        case atStart => exact ⟨0, by omega, rfl, hX, HR2⟩
        case round =>
          clear hX HR2
          obtain ⟨k, hk, rfl, hX, HR⟩ := hrel
          obtain ⟨hc, hf⟩ := bcell hX
          by_cases hlk : k < f.length
          · obtain ⟨b2, o2, pv2, heq, hb2, hpp2, d0, d1⟩ := h.at2 hlk
            simp only [Option.some.injEq, Addr.mk.injEq, and_true] at heq
            obtain ⟨rfl, rfl⟩ := heq
            obtain ⟨pa2, pcap2, rfl⟩ := hpp2.form
            have hbw : b < wr.heap.size := Nat.lt_of_lt_of_le hb' hX.size
            have hpl2 := HB.out f[k] (List.getElem_mem _)
            rw [orderIn_drop _ _ _ _ hlk] at HR
            by_cases hik : i = k
            · subst hik
              have hr := HR.out
              rw [if_neg (by simp [badPair])] at hr
              have HR2 := Lib.hid hr; clear hr HR
              have hne : (((i : Nat) : Int) != ((i : Nat) : Int)) = false := by simp
              go_wp2_with fail
              refine wp_region_ext [5, 10, 15, 17, 22, 24] [0, 1, 2, 3, 4, 5, 6, 7, 8, 9, 10, 11, 12, 13, 14, 16, 15, 17, 18, 19, 20, 21, 23, 22, 24, 25, 26] [] [] (by kernel_rfl) (by kernel_rfl) ?late ?_
              case late => exact fun f hf => absurd hf List.not_mem_nil
              iterate 4
                refine Rob.y (v := ?_) rfl rfl (fun w1 hx hH => ?_) ?_; rotate_left
                · go_simp; first | done | rfl | exact (Bool.not_not _).symm
                simp only [Act.put, List.setIfInBounds_toArray, List.set_cons_succ, List.set_cons_zero]
              iterate 3
                refine Rob.no rfl rfl ?_
                simp only [Act.put, List.setIfInBounds_toArray, List.set_cons_succ, List.set_cons_zero]
              refine Rob.y (v := ?_) rfl rfl (fun w1 hx hH => ?_) ?_; rotate_left
              · go_simp; first | done | rfl | exact (Bool.not_not _).symm
              simp only [Act.put, List.setIfInBounds_toArray, List.set_cons_succ, List.set_cons_zero]
              refine Rob.yB (b := ?_) rfl rfl (fun w1 hx hH => ?_) (fun hb8 => ?_) (fun hb8 => ?_); rotate_left
              · go_simp; first | done | rfl | exact (Bool.not_not _).symm
              focus
                try contradiction
                all_goals
                  simp only [Act.put, List.setIfInBounds_toArray, List.set_cons_succ, List.set_cons_zero]
                  refine Rob.yg (v := ?_) rfl rfl (fun w1 hx hH => ?_) ?_; rotate_left
                  · (obtain ⟨hcx, hfx⟩ := bcell hx); go_simp; first | done | rfl
                  simp only [Act.put, List.setIfInBounds_toArray, List.set_cons_succ, List.set_cons_zero]
                  refine Rob.no rfl rfl ?_
                  simp only [Act.put, List.setIfInBounds_toArray, List.set_cons_succ, List.set_cons_zero]
                  refine Rob.yg (v := ?_) rfl rfl (fun w1 hx hH => ?_) ?_; rotate_left
                  · go_simp; first | done | rfl | exact (Bool.not_not _).symm
                  simp only [Act.put, List.setIfInBounds_toArray, List.set_cons_succ, List.set_cons_zero]
                  refine Rob.y (v := ?_) rfl rfl (fun w1 hx hH => ?_) ?_; rotate_left
                  · go_simp; first | done | rfl | exact (Bool.not_not _).symm
                  simp only [Act.put, List.setIfInBounds_toArray, List.set_cons_succ, List.set_cons_zero]
                  refine Rob.yB (b := ?_) rfl rfl (fun w1 hx hH => ?_) (fun hb13 => ?_) (fun hb13 => ?_); rotate_left
                  · go_simp; first | done | rfl | exact (Bool.not_not _).symm
                  focus
                    try contradiction
                    all_goals
                      simp only [Act.put, List.setIfInBounds_toArray, List.set_cons_succ, List.set_cons_zero]
                      iterate 2
                        refine Rob.yg (v := ?_) rfl rfl (fun w1 hx hH => ?_) ?_; rotate_left
                        · (obtain ⟨hcx, hfx⟩ := bcell hx); go_simp; first | done | rfl
                        simp only [Act.put, List.setIfInBounds_toArray, List.set_cons_succ, List.set_cons_zero]
                      iterate 2
                        refine Rob.no rfl rfl ?_
                        simp only [Act.put, List.setIfInBounds_toArray, List.set_cons_succ, List.set_cons_zero]
                      refine Rob.yg (v := ?_) rfl rfl (fun w1 hx hH => ?_) ?_; rotate_left
                      · go_simp; first | done | rfl | exact (Bool.not_not _).symm
                      simp only [Act.put, List.setIfInBounds_toArray, List.set_cons_succ, List.set_cons_zero]
                      refine Rob.y (v := ?_) rfl rfl (fun w1 hx hH => ?_) ?_; rotate_left
                      · go_simp; first | done | rfl | exact (Bool.not_not _).symm
                      simp only [Act.put, List.setIfInBounds_toArray, List.set_cons_succ, List.set_cons_zero]
                      refine Rob.yB (b := ?_) rfl rfl (fun w1 hx hH => ?_) (fun hb20 => ?_) (fun hb20 => ?_); rotate_left
                      · go_simp; first | done | rfl | exact (Bool.not_not _).symm
                      focus
                        try contradiction
                        all_goals
                          simp only [Act.put, List.setIfInBounds_toArray, List.set_cons_succ, List.set_cons_zero]
                          iterate 2
                            refine Rob.yg (v := ?_) rfl rfl (fun w1 hx hH => ?_) ?_; rotate_left
                            · (obtain ⟨hcx, hfx⟩ := bcell hx); go_simp; first | done | rfl
                            simp only [Act.put, List.setIfInBounds_toArray, List.set_cons_succ, List.set_cons_zero]
                          iterate 2
                            refine Rob.no rfl rfl ?_
                            simp only [Act.put, List.setIfInBounds_toArray, List.set_cons_succ, List.set_cons_zero]
                          refine Rob.yg (v := ?_) rfl rfl (fun w1 hx hH => ?_) ?_; rotate_left
                          · go_simp; first | done | rfl | exact (Bool.not_not _).symm
                          simp only [Act.put, List.setIfInBounds_toArray, List.set_cons_succ, List.set_cons_zero]
                          refine Rob.y (v := ?_) rfl rfl (fun w1 hx hH => ?_) ?_; rotate_left
                          · go_simp; first | done | rfl | exact (Bool.not_not _).symm
                          simp only [Act.put, List.setIfInBounds_toArray, List.set_cons_succ, List.set_cons_zero]
                      rotate_right
                      focus
                        try contradiction
                        all_goals
                          simp only [Act.put, List.setIfInBounds_toArray, List.set_cons_succ, List.set_cons_zero]
                          iterate 5
                            refine Rob.no rfl rfl ?_
                            simp only [Act.put, List.setIfInBounds_toArray, List.set_cons_succ, List.set_cons_zero]
                          refine Rob.y (v := ?_) rfl rfl (fun w1 hx hH => ?_) ?_; rotate_left
                          · go_simp; first | done | rfl | exact (Bool.not_not _).symm
                          simp only [Act.put, List.setIfInBounds_toArray, List.set_cons_succ, List.set_cons_zero]
                  rotate_right
                  focus
                    try contradiction
                    all_goals
                      simp only [Act.put, List.setIfInBounds_toArray, List.set_cons_succ, List.set_cons_zero]
                      iterate 5
                        refine Rob.no rfl rfl ?_
                        simp only [Act.put, List.setIfInBounds_toArray, List.set_cons_succ, List.set_cons_zero]
                      refine Rob.y (v := ?_) rfl rfl (fun w1 hx hH => ?_) ?_; rotate_left
                      · go_simp; first | done | rfl | exact (Bool.not_not _).symm
                      simp only [Act.put, List.setIfInBounds_toArray, List.set_cons_succ, List.set_cons_zero]
                      refine Rob.yB (b := ?_) rfl rfl (fun w1 hx hH => ?_) (fun hb20 => ?_) (fun hb20 => ?_); rotate_left
                      · go_simp; first | done | rfl | exact (Bool.not_not _).symm
                      focus
                        try contradiction
                        all_goals
                          simp only [Act.put, List.setIfInBounds_toArray, List.set_cons_succ, List.set_cons_zero]
                          iterate 2
                            refine Rob.yg (v := ?_) rfl rfl (fun w1 hx hH => ?_) ?_; rotate_left
                            · (obtain ⟨hcx, hfx⟩ := bcell hx); go_simp; first | done | rfl
                            simp only [Act.put, List.setIfInBounds_toArray, List.set_cons_succ, List.set_cons_zero]
                          iterate 2
                            refine Rob.no rfl rfl ?_
                            simp only [Act.put, List.setIfInBounds_toArray, List.set_cons_succ, List.set_cons_zero]
                          refine Rob.yg (v := ?_) rfl rfl (fun w1 hx hH => ?_) ?_; rotate_left
                          · go_simp; first | done | rfl | exact (Bool.not_not _).symm
                          simp only [Act.put, List.setIfInBounds_toArray, List.set_cons_succ, List.set_cons_zero]
                          refine Rob.y (v := ?_) rfl rfl (fun w1 hx hH => ?_) ?_; rotate_left
                          · go_simp; first | done | rfl | exact (Bool.not_not _).symm
                          simp only [Act.put, List.setIfInBounds_toArray, List.set_cons_succ, List.set_cons_zero]
                      rotate_right
                      focus
                        try contradiction
                        all_goals
                          simp only [Act.put, List.setIfInBounds_toArray, List.set_cons_succ, List.set_cons_zero]
                          iterate 5
                            refine Rob.no rfl rfl ?_
                            simp only [Act.put, List.setIfInBounds_toArray, List.set_cons_succ, List.set_cons_zero]
                          refine Rob.y (v := ?_) rfl rfl (fun w1 hx hH => ?_) ?_; rotate_left
                          · go_simp; first | done | rfl | exact (Bool.not_not _).symm
                          simp only [Act.put, List.setIfInBounds_toArray, List.set_cons_succ, List.set_cons_zero]
              rotate_right
              focus
                try contradiction
                all_goals
                  simp only [Act.put, List.setIfInBounds_toArray, List.set_cons_succ, List.set_cons_zero]
                  iterate 3
                    refine Rob.no rfl rfl ?_
                    simp only [Act.put, List.setIfInBounds_toArray, List.set_cons_succ, List.set_cons_zero]
                  refine Rob.y (v := ?_) rfl rfl (fun w1 hx hH => ?_) ?_; rotate_left
                  · go_simp; first | done | rfl | exact (Bool.not_not _).symm
                  simp only [Act.put, List.setIfInBounds_toArray, List.set_cons_succ, List.set_cons_zero]
                  refine Rob.yB (b := ?_) rfl rfl (fun w1 hx hH => ?_) (fun hb13 => ?_) (fun hb13 => ?_); rotate_left
                  · go_simp; first | done | rfl | exact (Bool.not_not _).symm
                  focus
                    try contradiction
                    all_goals
                      simp only [Act.put, List.setIfInBounds_toArray, List.set_cons_succ, List.set_cons_zero]
                      iterate 2
                        refine Rob.yg (v := ?_) rfl rfl (fun w1 hx hH => ?_) ?_; rotate_left
                        · (obtain ⟨hcx, hfx⟩ := bcell hx); go_simp; first | done | rfl
                        simp only [Act.put, List.setIfInBounds_toArray, List.set_cons_succ, List.set_cons_zero]
                      iterate 2
                        refine Rob.no rfl rfl ?_
                        simp only [Act.put, List.setIfInBounds_toArray, List.set_cons_succ, List.set_cons_zero]
                      refine Rob.yg (v := ?_) rfl rfl (fun w1 hx hH => ?_) ?_; rotate_left
                      · go_simp; first | done | rfl | exact (Bool.not_not _).symm
                      simp only [Act.put, List.setIfInBounds_toArray, List.set_cons_succ, List.set_cons_zero]
                      refine Rob.y (v := ?_) rfl rfl (fun w1 hx hH => ?_) ?_; rotate_left
                      · go_simp; first | done | rfl | exact (Bool.not_not _).symm
                      simp only [Act.put, List.setIfInBounds_toArray, List.set_cons_succ, List.set_cons_zero]
                      refine Rob.yB (b := ?_) rfl rfl (fun w1 hx hH => ?_) (fun hb20 => ?_) (fun hb20 => ?_); rotate_left
                      · go_simp; first | done | rfl | exact (Bool.not_not _).symm
                      focus
                        try contradiction
                        all_goals
                          simp only [Act.put, List.setIfInBounds_toArray, List.set_cons_succ, List.set_cons_zero]
                          iterate 2
                            refine Rob.yg (v := ?_) rfl rfl (fun w1 hx hH => ?_) ?_; rotate_left
                            · (obtain ⟨hcx, hfx⟩ := bcell hx); go_simp; first | done | rfl
                            simp only [Act.put, List.setIfInBounds_toArray, List.set_cons_succ, List.set_cons_zero]
                          iterate 2
                            refine Rob.no rfl rfl ?_
                            simp only [Act.put, List.setIfInBounds_toArray, List.set_cons_succ, List.set_cons_zero]
                          refine Rob.yg (v := ?_) rfl rfl (fun w1 hx hH => ?_) ?_; rotate_left
                          · go_simp; first | done | rfl | exact (Bool.not_not _).symm
                          simp only [Act.put, List.setIfInBounds_toArray, List.set_cons_succ, List.set_cons_zero]
                          refine Rob.y (v := ?_) rfl rfl (fun w1 hx hH => ?_) ?_; rotate_left
                          · go_simp; first | done | rfl | exact (Bool.not_not _).symm
                          simp only [Act.put, List.setIfInBounds_toArray, List.set_cons_succ, List.set_cons_zero]
                      rotate_right
                      focus
                        try contradiction
                        all_goals
                          simp only [Act.put, List.setIfInBounds_toArray, List.set_cons_succ, List.set_cons_zero]
                          iterate 5
                            refine Rob.no rfl rfl ?_
                            simp only [Act.put, List.setIfInBounds_toArray, List.set_cons_succ, List.set_cons_zero]
                          refine Rob.y (v := ?_) rfl rfl (fun w1 hx hH => ?_) ?_; rotate_left
                          · go_simp; first | done | rfl | exact (Bool.not_not _).symm
                          simp only [Act.put, List.setIfInBounds_toArray, List.set_cons_succ, List.set_cons_zero]
                  rotate_right
                  focus
                    try contradiction
                    all_goals
                      simp only [Act.put, List.setIfInBounds_toArray, List.set_cons_succ, List.set_cons_zero]
                      iterate 5
                        refine Rob.no rfl rfl ?_
                        simp only [Act.put, List.setIfInBounds_toArray, List.set_cons_succ, List.set_cons_zero]
                      refine Rob.y (v := ?_) rfl rfl (fun w1 hx hH => ?_) ?_; rotate_left
                      · go_simp; first | done | rfl | exact (Bool.not_not _).symm
                      simp only [Act.put, List.setIfInBounds_toArray, List.set_cons_succ, List.set_cons_zero]
                      refine Rob.yB (b := ?_) rfl rfl (fun w1 hx hH => ?_) (fun hb20 => ?_) (fun hb20 => ?_); rotate_left
                      · go_simp; first | done | rfl | exact (Bool.not_not _).symm
                      focus
                        try contradiction
                        all_goals
                          simp only [Act.put, List.setIfInBounds_toArray, List.set_cons_succ, List.set_cons_zero]
                          iterate 2
                            refine Rob.yg (v := ?_) rfl rfl (fun w1 hx hH => ?_) ?_; rotate_left
                            · (obtain ⟨hcx, hfx⟩ := bcell hx); go_simp; first | done | rfl
                            simp only [Act.put, List.setIfInBounds_toArray, List.set_cons_succ, List.set_cons_zero]
                          iterate 2
                            refine Rob.no rfl rfl ?_
                            simp only [Act.put, List.setIfInBounds_toArray, List.set_cons_succ, List.set_cons_zero]
                          refine Rob.yg (v := ?_) rfl rfl (fun w1 hx hH => ?_) ?_; rotate_left
                          · go_simp; first | done | rfl | exact (Bool.not_not _).symm
                          simp only [Act.put, List.setIfInBounds_toArray, List.set_cons_succ, List.set_cons_zero]
                          refine Rob.y (v := ?_) rfl rfl (fun w1 hx hH => ?_) ?_; rotate_left
                          · go_simp; first | done | rfl | exact (Bool.not_not _).symm
                          simp only [Act.put, List.setIfInBounds_toArray, List.set_cons_succ, List.set_cons_zero]
                      rotate_right
                      focus
                        try contradiction
                        all_goals
                          simp only [Act.put, List.setIfInBounds_toArray, List.set_cons_succ, List.set_cons_zero]
                          iterate 5
                            refine Rob.no rfl rfl ?_
                            simp only [Act.put, List.setIfInBounds_toArray, List.set_cons_succ, List.set_cons_zero]
                          refine Rob.y (v := ?_) rfl rfl (fun w1 hx hH => ?_) ?_; rotate_left
                          · go_simp; first | done | rfl | exact (Bool.not_not _).symm
                          simp only [Act.put, List.setIfInBounds_toArray, List.set_cons_succ, List.set_cons_zero]
              refine fin_nil (fun w2 hx2 _ => ?_)
              go_wp2_with fail
              refine wp_region_ext [5, 10, 15, 19, 24, 28, 30] [0, 1, 2, 3, 4, 5, 6, 7, 8, 9, 10, 11, 12, 13, 14, 15, 16, 17, 18, 19, 20, 21, 22, 23, 24, 25, 26, 27, 29, 28, 30, 31, 32, 33, 34] [] [] (by kernel_rfl) (by kernel_rfl) ?late ?_
              case late => exact fun f hf => absurd hf List.not_mem_nil
              iterate 4
                refine Rob.y (v := ?_) rfl rfl (fun w1 hx hH => ?_) ?_; rotate_left
                · go_simp; first | done | rfl | exact (Bool.not_not _).symm
                simp only [Act.put, List.setIfInBounds_toArray, List.set_cons_succ, List.set_cons_zero]
              iterate 3
                refine Rob.no rfl rfl ?_
                simp only [Act.put, List.setIfInBounds_toArray, List.set_cons_succ, List.set_cons_zero]
              refine Rob.y (v := ?_) rfl rfl (fun w1 hx hH => ?_) ?_; rotate_left
              · go_simp; first | done | rfl | exact (Bool.not_not _).symm
              simp only [Act.put, List.setIfInBounds_toArray, List.set_cons_succ, List.set_cons_zero]
              refine Rob.yB (b := ?_) rfl rfl (fun w1 hx hH => ?_) (fun hb8 => ?_) (fun hb8 => ?_); rotate_left
              · go_simp; first | done | rfl | exact (Bool.not_not _).symm
              focus
                try contradiction
                all_goals
                  simp only [Act.put, List.setIfInBounds_toArray, List.set_cons_succ, List.set_cons_zero]
                  refine Rob.yg (v := ?_) rfl rfl (fun w1 hx hH => ?_) ?_; rotate_left
                  · (obtain ⟨hcx, hfx⟩ := bcell hx); go_simp; first | done | rfl
                  simp only [Act.put, List.setIfInBounds_toArray, List.set_cons_succ, List.set_cons_zero]
                  refine Rob.no rfl rfl ?_
                  simp only [Act.put, List.setIfInBounds_toArray, List.set_cons_succ, List.set_cons_zero]
                  refine Rob.yg (v := ?_) rfl rfl (fun w1 hx hH => ?_) ?_; rotate_left
                  · go_simp; first | done | rfl | exact (Bool.not_not _).symm
                  simp only [Act.put, List.setIfInBounds_toArray, List.set_cons_succ, List.set_cons_zero]
                  refine Rob.y (v := ?_) rfl rfl (fun w1 hx hH => ?_) ?_; rotate_left
                  · go_simp; first | done | rfl | exact (Bool.not_not _).symm
                  simp only [Act.put, List.setIfInBounds_toArray, List.set_cons_succ, List.set_cons_zero]
                  refine Rob.yB (b := ?_) rfl rfl (fun w1 hx hH => ?_) (fun hb13 => ?_) (fun hb13 => ?_); rotate_left
                  · go_simp; first | done | rfl | exact (Bool.not_not _).symm
                  focus
                    try contradiction
                    all_goals
                      simp only [Act.put, List.setIfInBounds_toArray, List.set_cons_succ, List.set_cons_zero]
                      refine Rob.yg (v := ?_) rfl rfl (fun w1 hx hH => ?_) ?_; rotate_left
                      · (obtain ⟨hcx, hfx⟩ := bcell hx); go_simp; first | done | rfl
                      simp only [Act.put, List.setIfInBounds_toArray, List.set_cons_succ, List.set_cons_zero]
                      refine Rob.no rfl rfl ?_
                      simp only [Act.put, List.setIfInBounds_toArray, List.set_cons_succ, List.set_cons_zero]
                      refine Rob.yg (v := ?_) rfl rfl (fun w1 hx hH => ?_) ?_; rotate_left
                      · go_simp; first | done | rfl | exact (Bool.not_not _).symm
                      simp only [Act.put, List.setIfInBounds_toArray, List.set_cons_succ, List.set_cons_zero]
                      refine Rob.yB (b := ?_) rfl rfl (fun w1 hx hH => ?_) (fun hb17 => ?_) (fun hb17 => ?_); rotate_left
                      · go_simp; first | done | rfl | exact (Bool.not_not _).symm
                      focus
                        try contradiction
                        all_goals
                          simp only [Act.put, List.setIfInBounds_toArray, List.set_cons_succ, List.set_cons_zero]
                          refine Rob.yg (v := ?_) rfl rfl (fun w1 hx hH => ?_) ?_; rotate_left
                          · (obtain ⟨hcx, hfx⟩ := bcell hx); go_simp; first | done | rfl
                          simp only [Act.put, List.setIfInBounds_toArray, List.set_cons_succ, List.set_cons_zero]
                          refine Rob.no rfl rfl ?_
                          simp only [Act.put, List.setIfInBounds_toArray, List.set_cons_succ, List.set_cons_zero]
                          iterate 2
                            refine Rob.yg (v := ?_) rfl rfl (fun w1 hx hH => ?_) ?_; rotate_left
                            · go_simp; first | done | rfl | exact (Bool.not_not _).symm
                            simp only [Act.put, List.setIfInBounds_toArray, List.set_cons_succ, List.set_cons_zero]
                          refine Rob.yB (b := ?_) rfl rfl (fun w1 hx hH => ?_) (fun hb22 => ?_) (fun hb22 => ?_); rotate_left
                          · go_simp; first | done | rfl | exact (Bool.not_not _).symm
                          focus
                            try contradiction
                            all_goals
                              simp only [Act.put, List.setIfInBounds_toArray, List.set_cons_succ, List.set_cons_zero]
                              iterate 10
                                refine Rob.no rfl rfl ?_
                                simp only [Act.put, List.setIfInBounds_toArray, List.set_cons_succ, List.set_cons_zero]
                              refine Rob.yg (v := ?_) rfl rfl (fun w1 hx hH => ?_) ?_; rotate_left
                              · go_simp; first | done | rfl | exact (Bool.not_not _).symm
                              simp only [Act.put, List.setIfInBounds_toArray, List.set_cons_succ, List.set_cons_zero]
                              refine Rob.y (v := ?_) rfl rfl (fun w1 hx hH => ?_) ?_; rotate_left
                              · go_simp; first | done | rfl | exact (Bool.not_not _).symm
                              simp only [Act.put, List.setIfInBounds_toArray, List.set_cons_succ, List.set_cons_zero]
                          rotate_right
                          focus
                            try contradiction
                            all_goals
                              simp only [Act.put, List.setIfInBounds_toArray, List.set_cons_succ, List.set_cons_zero]
                              refine Rob.yg (v := ?_) rfl rfl (fun w1 hx hH => ?_) ?_; rotate_left
                              · (obtain ⟨hcx, hfx⟩ := bcell hx); go_simp; first | done | rfl
                              simp only [Act.put, List.setIfInBounds_toArray, List.set_cons_succ, List.set_cons_zero]
                              refine Rob.no rfl rfl ?_
                              simp only [Act.put, List.setIfInBounds_toArray, List.set_cons_succ, List.set_cons_zero]
                              refine Rob.yg (v := ?_) rfl rfl (fun w1 hx hH => ?_) ?_; rotate_left
                              · go_simp; first | done | rfl | exact (Bool.not_not _).symm
                              simp only [Act.put, List.setIfInBounds_toArray, List.set_cons_succ, List.set_cons_zero]
                              refine Rob.yB (b := ?_) rfl rfl (fun w1 hx hH => ?_) (fun hb26 => ?_) (fun hb26 => ?_); rotate_left
                              · go_simp; first | done | rfl | exact (Bool.not_not _).symm
                              focus
                                try contradiction
                                all_goals
                                  simp only [Act.put, List.setIfInBounds_toArray, List.set_cons_succ, List.set_cons_zero]
                                  iterate 2
                                    refine Rob.yg (v := ?_) rfl rfl (fun w1 hx hH => ?_) ?_; rotate_left
                                    · (obtain ⟨hcx, hfx⟩ := bcell hx); go_simp; first | done | rfl
                                    simp only [Act.put, List.setIfInBounds_toArray, List.set_cons_succ, List.set_cons_zero]
                                  iterate 2
                                    refine Rob.no rfl rfl ?_
                                    simp only [Act.put, List.setIfInBounds_toArray, List.set_cons_succ, List.set_cons_zero]
                                  iterate 3
                                    refine Rob.yg (v := ?_) rfl rfl (fun w1 hx hH => ?_) ?_; rotate_left
                                    · go_simp; first | done | rfl | exact (Bool.not_not _).symm
                                    simp only [Act.put, List.setIfInBounds_toArray, List.set_cons_succ, List.set_cons_zero]
                                  refine Rob.y (v := ?_) rfl rfl (fun w1 hx hH => ?_) ?_; rotate_left
                                  · go_simp; first | done | rfl | exact (Bool.not_not _).symm
                                  simp only [Act.put, List.setIfInBounds_toArray, List.set_cons_succ, List.set_cons_zero]
                              rotate_right
                              focus
                                try contradiction
                                all_goals
                                  simp only [Act.put, List.setIfInBounds_toArray, List.set_cons_succ, List.set_cons_zero]
                                  iterate 5
                                    refine Rob.no rfl rfl ?_
                                    simp only [Act.put, List.setIfInBounds_toArray, List.set_cons_succ, List.set_cons_zero]
                                  iterate 2
                                    refine Rob.yg (v := ?_) rfl rfl (fun w1 hx hH => ?_) ?_; rotate_left
                                    · go_simp; first | done | rfl | exact (Bool.not_not _).symm
                                    simp only [Act.put, List.setIfInBounds_toArray, List.set_cons_succ, List.set_cons_zero]
                                  refine Rob.y (v := ?_) rfl rfl (fun w1 hx hH => ?_) ?_; rotate_left
                                  · go_simp; first | done | rfl | exact (Bool.not_not _).symm
                                  simp only [Act.put, List.setIfInBounds_toArray, List.set_cons_succ, List.set_cons_zero]
                      rotate_right
                      focus
                        try contradiction
                        all_goals
                          simp only [Act.put, List.setIfInBounds_toArray, List.set_cons_succ, List.set_cons_zero]
                          iterate 3
                            refine Rob.no rfl rfl ?_
                            simp only [Act.put, List.setIfInBounds_toArray, List.set_cons_succ, List.set_cons_zero]
                          refine Rob.yg (v := ?_) rfl rfl (fun w1 hx hH => ?_) ?_; rotate_left
                          · go_simp; first | done | rfl | exact (Bool.not_not _).symm
                          simp only [Act.put, List.setIfInBounds_toArray, List.set_cons_succ, List.set_cons_zero]
                          refine Rob.yB (b := ?_) rfl rfl (fun w1 hx hH => ?_) (fun hb22 => ?_) (fun hb22 => ?_); rotate_left
                          · go_simp; first | done | rfl | exact (Bool.not_not _).symm
                          focus
                            try contradiction
                            all_goals
                              simp only [Act.put, List.setIfInBounds_toArray, List.set_cons_succ, List.set_cons_zero]
                              iterate 10
                                refine Rob.no rfl rfl ?_
                                simp only [Act.put, List.setIfInBounds_toArray, List.set_cons_succ, List.set_cons_zero]
                              refine Rob.yg (v := ?_) rfl rfl (fun w1 hx hH => ?_) ?_; rotate_left
                              · go_simp; first | done | rfl | exact (Bool.not_not _).symm
                              simp only [Act.put, List.setIfInBounds_toArray, List.set_cons_succ, List.set_cons_zero]
                              refine Rob.y (v := ?_) rfl rfl (fun w1 hx hH => ?_) ?_; rotate_left
                              · go_simp; first | done | rfl | exact (Bool.not_not _).symm
                              simp only [Act.put, List.setIfInBounds_toArray, List.set_cons_succ, List.set_cons_zero]
                          rotate_right
                          focus
                            try contradiction
                            all_goals
                              simp only [Act.put, List.setIfInBounds_toArray, List.set_cons_succ, List.set_cons_zero]
                              refine Rob.yg (v := ?_) rfl rfl (fun w1 hx hH => ?_) ?_; rotate_left
                              · (obtain ⟨hcx, hfx⟩ := bcell hx); go_simp; first | done | rfl
                              simp only [Act.put, List.setIfInBounds_toArray, List.set_cons_succ, List.set_cons_zero]
                              refine Rob.no rfl rfl ?_
                              simp only [Act.put, List.setIfInBounds_toArray, List.set_cons_succ, List.set_cons_zero]
                              refine Rob.yg (v := ?_) rfl rfl (fun w1 hx hH => ?_) ?_; rotate_left
                              · go_simp; first | done | rfl | exact (Bool.not_not _).symm
                              simp only [Act.put, List.setIfInBounds_toArray, List.set_cons_succ, List.set_cons_zero]
                              refine Rob.yB (b := ?_) rfl rfl (fun w1 hx hH => ?_) (fun hb26 => ?_) (fun hb26 => ?_); rotate_left
                              · go_simp; first | done | rfl | exact (Bool.not_not _).symm
                              focus
                                try contradiction
                                all_goals
                                  simp only [Act.put, List.setIfInBounds_toArray, List.set_cons_succ, List.set_cons_zero]
                                  iterate 2
                                    refine Rob.yg (v := ?_) rfl rfl (fun w1 hx hH => ?_) ?_; rotate_left
                                    · (obtain ⟨hcx, hfx⟩ := bcell hx); go_simp; first | done | rfl
                                    simp only [Act.put, List.setIfInBounds_toArray, List.set_cons_succ, List.set_cons_zero]
                                  iterate 2
                                    refine Rob.no rfl rfl ?_
                                    simp only [Act.put, List.setIfInBounds_toArray, List.set_cons_succ, List.set_cons_zero]
                                  iterate 3
                                    refine Rob.yg (v := ?_) rfl rfl (fun w1 hx hH => ?_) ?_; rotate_left
                                    · go_simp; first | done | rfl | exact (Bool.not_not _).symm
                                    simp only [Act.put, List.setIfInBounds_toArray, List.set_cons_succ, List.set_cons_zero]
                                  refine Rob.y (v := ?_) rfl rfl (fun w1 hx hH => ?_) ?_; rotate_left
                                  · go_simp; first | done | rfl | exact (Bool.not_not _).symm
                                  simp only [Act.put, List.setIfInBounds_toArray, List.set_cons_succ, List.set_cons_zero]
                              rotate_right
                              focus
                                try contradiction
                                all_goals
                                  simp only [Act.put, List.setIfInBounds_toArray, List.set_cons_succ, List.set_cons_zero]
                                  iterate 5
                                    refine Rob.no rfl rfl ?_
                                    simp only [Act.put, List.setIfInBounds_toArray, List.set_cons_succ, List.set_cons_zero]
                                  iterate 2
                                    refine Rob.yg (v := ?_) rfl rfl (fun w1 hx hH => ?_) ?_; rotate_left
                                    · go_simp; first | done | rfl | exact (Bool.not_not _).symm
                                    simp only [Act.put, List.setIfInBounds_toArray, List.set_cons_succ, List.set_cons_zero]
                                  refine Rob.y (v := ?_) rfl rfl (fun w1 hx hH => ?_) ?_; rotate_left
                                  · go_simp; first | done | rfl | exact (Bool.not_not _).symm
                                  simp only [Act.put, List.setIfInBounds_toArray, List.set_cons_succ, List.set_cons_zero]
                  rotate_right
                  focus
                    try contradiction
                    all_goals
                      simp only [Act.put, List.setIfInBounds_toArray, List.set_cons_succ, List.set_cons_zero]
                      iterate 20
                        refine Rob.no rfl rfl ?_
                        simp only [Act.put, List.setIfInBounds_toArray, List.set_cons_succ, List.set_cons_zero]
                      refine Rob.y (v := ?_) rfl rfl (fun w1 hx hH => ?_) ?_; rotate_left
                      · go_simp; first | done | rfl | exact (Bool.not_not _).symm
                      simp only [Act.put, List.setIfInBounds_toArray, List.set_cons_succ, List.set_cons_zero]
              rotate_right
              focus
                try contradiction
                all_goals
                  simp only [Act.put, List.setIfInBounds_toArray, List.set_cons_succ, List.set_cons_zero]
                  iterate 3
                    refine Rob.no rfl rfl ?_
                    simp only [Act.put, List.setIfInBounds_toArray, List.set_cons_succ, List.set_cons_zero]
                  refine Rob.y (v := ?_) rfl rfl (fun w1 hx hH => ?_) ?_; rotate_left
                  · go_simp; first | done | rfl | exact (Bool.not_not _).symm
                  simp only [Act.put, List.setIfInBounds_toArray, List.set_cons_succ, List.set_cons_zero]
                  refine Rob.yB (b := ?_) rfl rfl (fun w1 hx hH => ?_) (fun hb13 => ?_) (fun hb13 => ?_); rotate_left
                  · go_simp; first | done | rfl | exact (Bool.not_not _).symm
                  focus
                    try contradiction
                    all_goals
                      simp only [Act.put, List.setIfInBounds_toArray, List.set_cons_succ, List.set_cons_zero]
                      refine Rob.yg (v := ?_) rfl rfl (fun w1 hx hH => ?_) ?_; rotate_left
                      · (obtain ⟨hcx, hfx⟩ := bcell hx); go_simp; first | done | rfl
                      simp only [Act.put, List.setIfInBounds_toArray, List.set_cons_succ, List.set_cons_zero]
                      refine Rob.no rfl rfl ?_
                      simp only [Act.put, List.setIfInBounds_toArray, List.set_cons_succ, List.set_cons_zero]
                      refine Rob.yg (v := ?_) rfl rfl (fun w1 hx hH => ?_) ?_; rotate_left
                      · go_simp; first | done | rfl | exact (Bool.not_not _).symm
                      simp only [Act.put, List.setIfInBounds_toArray, List.set_cons_succ, List.set_cons_zero]
                      refine Rob.yB (b := ?_) rfl rfl (fun w1 hx hH => ?_) (fun hb17 => ?_) (fun hb17 => ?_); rotate_left
                      · go_simp; first | done | rfl | exact (Bool.not_not _).symm
                      focus
                        try contradiction
                        all_goals
                          simp only [Act.put, List.setIfInBounds_toArray, List.set_cons_succ, List.set_cons_zero]
                          refine Rob.yg (v := ?_) rfl rfl (fun w1 hx hH => ?_) ?_; rotate_left
                          · (obtain ⟨hcx, hfx⟩ := bcell hx); go_simp; first | done | rfl
                          simp only [Act.put, List.setIfInBounds_toArray, List.set_cons_succ, List.set_cons_zero]
                          refine Rob.no rfl rfl ?_
                          simp only [Act.put, List.setIfInBounds_toArray, List.set_cons_succ, List.set_cons_zero]
                          iterate 2
                            refine Rob.yg (v := ?_) rfl rfl (fun w1 hx hH => ?_) ?_; rotate_left
                            · go_simp; first | done | rfl | exact (Bool.not_not _).symm
                            simp only [Act.put, List.setIfInBounds_toArray, List.set_cons_succ, List.set_cons_zero]
                          refine Rob.yB (b := ?_) rfl rfl (fun w1 hx hH => ?_) (fun hb22 => ?_) (fun hb22 => ?_); rotate_left
                          · go_simp; first | done | rfl | exact (Bool.not_not _).symm
                          focus
                            try contradiction
                            all_goals
                              simp only [Act.put, List.setIfInBounds_toArray, List.set_cons_succ, List.set_cons_zero]
                              iterate 10
                                refine Rob.no rfl rfl ?_
                                simp only [Act.put, List.setIfInBounds_toArray, List.set_cons_succ, List.set_cons_zero]
                              refine Rob.yg (v := ?_) rfl rfl (fun w1 hx hH => ?_) ?_; rotate_left
                              · go_simp; first | done | rfl | exact (Bool.not_not _).symm
                              simp only [Act.put, List.setIfInBounds_toArray, List.set_cons_succ, List.set_cons_zero]
                              refine Rob.y (v := ?_) rfl rfl (fun w1 hx hH => ?_) ?_; rotate_left
                              · go_simp; first | done | rfl | exact (Bool.not_not _).symm
                              simp only [Act.put, List.setIfInBounds_toArray, List.set_cons_succ, List.set_cons_zero]
                          rotate_right
                          focus
                            try contradiction
                            all_goals
                              simp only [Act.put, List.setIfInBounds_toArray, List.set_cons_succ, List.set_cons_zero]
                              refine Rob.yg (v := ?_) rfl rfl (fun w1 hx hH => ?_) ?_; rotate_left
                              · (obtain ⟨hcx, hfx⟩ := bcell hx); go_simp; first | done | rfl
                              simp only [Act.put, List.setIfInBounds_toArray, List.set_cons_succ, List.set_cons_zero]
                              refine Rob.no rfl rfl ?_
                              simp only [Act.put, List.setIfInBounds_toArray, List.set_cons_succ, List.set_cons_zero]
                              refine Rob.yg (v := ?_) rfl rfl (fun w1 hx hH => ?_) ?_; rotate_left
                              · go_simp; first | done | rfl | exact (Bool.not_not _).symm
                              simp only [Act.put, List.setIfInBounds_toArray, List.set_cons_succ, List.set_cons_zero]
                              refine Rob.yB (b := ?_) rfl rfl (fun w1 hx hH => ?_) (fun hb26 => ?_) (fun hb26 => ?_); rotate_left
                              · go_simp; first | done | rfl | exact (Bool.not_not _).symm
                              focus
                                try contradiction
                                all_goals
                                  simp only [Act.put, List.setIfInBounds_toArray, List.set_cons_succ, List.set_cons_zero]
                                  iterate 2
                                    refine Rob.yg (v := ?_) rfl rfl (fun w1 hx hH => ?_) ?_; rotate_left
                                    · (obtain ⟨hcx, hfx⟩ := bcell hx); go_simp; first | done | rfl
                                    simp only [Act.put, List.setIfInBounds_toArray, List.set_cons_succ, List.set_cons_zero]
                                  iterate 2
                                    refine Rob.no rfl rfl ?_
                                    simp only [Act.put, List.setIfInBounds_toArray, List.set_cons_succ, List.set_cons_zero]
                                  iterate 3
                                    refine Rob.yg (v := ?_) rfl rfl (fun w1 hx hH => ?_) ?_; rotate_left
                                    · go_simp; first | done | rfl | exact (Bool.not_not _).symm
                                    simp only [Act.put, List.setIfInBounds_toArray, List.set_cons_succ, List.set_cons_zero]
                                  refine Rob.y (v := ?_) rfl rfl (fun w1 hx hH => ?_) ?_; rotate_left
                                  · go_simp; first | done | rfl | exact (Bool.not_not _).symm
                                  simp only [Act.put, List.setIfInBounds_toArray, List.set_cons_succ, List.set_cons_zero]
                              rotate_right
                              focus
                                try contradiction
                                all_goals
                                  simp only [Act.put, List.setIfInBounds_toArray, List.set_cons_succ, List.set_cons_zero]
                                  iterate 5
                                    refine Rob.no rfl rfl ?_
                                    simp only [Act.put, List.setIfInBounds_toArray, List.set_cons_succ, List.set_cons_zero]
                                  iterate 2
                                    refine Rob.yg (v := ?_) rfl rfl (fun w1 hx hH => ?_) ?_; rotate_left
                                    · go_simp; first | done | rfl | exact (Bool.not_not _).symm
                                    simp only [Act.put, List.setIfInBounds_toArray, List.set_cons_succ, List.set_cons_zero]
                                  refine Rob.y (v := ?_) rfl rfl (fun w1 hx hH => ?_) ?_; rotate_left
                                  · go_simp; first | done | rfl | exact (Bool.not_not _).symm
                                  simp only [Act.put, List.setIfInBounds_toArray, List.set_cons_succ, List.set_cons_zero]
                      rotate_right
                      focus
                        try contradiction
                        all_goals
                          simp only [Act.put, List.setIfInBounds_toArray, List.set_cons_succ, List.set_cons_zero]
                          iterate 3
                            refine Rob.no rfl rfl ?_
                            simp only [Act.put, List.setIfInBounds_toArray, List.set_cons_succ, List.set_cons_zero]
                          refine Rob.yg (v := ?_) rfl rfl (fun w1 hx hH => ?_) ?_; rotate_left
                          · go_simp; first | done | rfl | exact (Bool.not_not _).symm
                          simp only [Act.put, List.setIfInBounds_toArray, List.set_cons_succ, List.set_cons_zero]
                          refine Rob.yB (b := ?_) rfl rfl (fun w1 hx hH => ?_) (fun hb22 => ?_) (fun hb22 => ?_); rotate_left
                          · go_simp; first | done | rfl | exact (Bool.not_not _).symm
                          focus
                            try contradiction
                            all_goals
                              simp only [Act.put, List.setIfInBounds_toArray, List.set_cons_succ, List.set_cons_zero]
                              iterate 10
                                refine Rob.no rfl rfl ?_
                                simp only [Act.put, List.setIfInBounds_toArray, List.set_cons_succ, List.set_cons_zero]
                              refine Rob.yg (v := ?_) rfl rfl (fun w1 hx hH => ?_) ?_; rotate_left
                              · go_simp; first | done | rfl | exact (Bool.not_not _).symm
                              simp only [Act.put, List.setIfInBounds_toArray, List.set_cons_succ, List.set_cons_zero]
                              refine Rob.y (v := ?_) rfl rfl (fun w1 hx hH => ?_) ?_; rotate_left
                              · go_simp; first | done | rfl | exact (Bool.not_not _).symm
                              simp only [Act.put, List.setIfInBounds_toArray, List.set_cons_succ, List.set_cons_zero]
                          rotate_right
                          focus
                            try contradiction
                            all_goals
                              simp only [Act.put, List.setIfInBounds_toArray, List.set_cons_succ, List.set_cons_zero]
                              refine Rob.yg (v := ?_) rfl rfl (fun w1 hx hH => ?_) ?_; rotate_left
                              · (obtain ⟨hcx, hfx⟩ := bcell hx); go_simp; first | done | rfl
                              simp only [Act.put, List.setIfInBounds_toArray, List.set_cons_succ, List.set_cons_zero]
                              refine Rob.no rfl rfl ?_
                              simp only [Act.put, List.setIfInBounds_toArray, List.set_cons_succ, List.set_cons_zero]
                              refine Rob.yg (v := ?_) rfl rfl (fun w1 hx hH => ?_) ?_; rotate_left
                              · go_simp; first | done | rfl | exact (Bool.not_not _).symm
                              simp only [Act.put, List.setIfInBounds_toArray, List.set_cons_succ, List.set_cons_zero]
                              refine Rob.yB (b := ?_) rfl rfl (fun w1 hx hH => ?_) (fun hb26 => ?_) (fun hb26 => ?_); rotate_left
                              · go_simp; first | done | rfl | exact (Bool.not_not _).symm
                              focus
                                try contradiction
                                all_goals
                                  simp only [Act.put, List.setIfInBounds_toArray, List.set_cons_succ, List.set_cons_zero]
                                  iterate 2
                                    refine Rob.yg (v := ?_) rfl rfl (fun w1 hx hH => ?_) ?_; rotate_left
                                    · (obtain ⟨hcx, hfx⟩ := bcell hx); go_simp; first | done | rfl
                                    simp only [Act.put, List.setIfInBounds_toArray, List.set_cons_succ, List.set_cons_zero]
                                  iterate 2
                                    refine Rob.no rfl rfl ?_
                                    simp only [Act.put, List.setIfInBounds_toArray, List.set_cons_succ, List.set_cons_zero]
                                  iterate 3
                                    refine Rob.yg (v := ?_) rfl rfl (fun w1 hx hH => ?_) ?_; rotate_left
                                    · go_simp; first | done | rfl | exact (Bool.not_not _).symm
                                    simp only [Act.put, List.setIfInBounds_toArray, List.set_cons_succ, List.set_cons_zero]
                                  refine Rob.y (v := ?_) rfl rfl (fun w1 hx hH => ?_) ?_; rotate_left
                                  · go_simp; first | done | rfl | exact (Bool.not_not _).symm
                                  simp only [Act.put, List.setIfInBounds_toArray, List.set_cons_succ, List.set_cons_zero]
                              rotate_right
                              focus
                                try contradiction
                                all_goals
                                  simp only [Act.put, List.setIfInBounds_toArray, List.set_cons_succ, List.set_cons_zero]
                                  iterate 5
                                    refine Rob.no rfl rfl ?_
                                    simp only [Act.put, List.setIfInBounds_toArray, List.set_cons_succ, List.set_cons_zero]
                                  iterate 2
                                    refine Rob.yg (v := ?_) rfl rfl (fun w1 hx hH => ?_) ?_; rotate_left
                                    · go_simp; first | done | rfl | exact (Bool.not_not _).symm
                                    simp only [Act.put, List.setIfInBounds_toArray, List.set_cons_succ, List.set_cons_zero]
                                  refine Rob.y (v := ?_) rfl rfl (fun w1 hx hH => ?_) ?_; rotate_left
                                  · go_simp; first | done | rfl | exact (Bool.not_not _).symm
                                  simp only [Act.put, List.setIfInBounds_toArray, List.set_cons_succ, List.set_cons_zero]
                  rotate_right
                  focus
                    try contradiction
                    all_goals
                      simp only [Act.put, List.setIfInBounds_toArray, List.set_cons_succ, List.set_cons_zero]
                      iterate 20
                        refine Rob.no rfl rfl ?_
                        simp only [Act.put, List.setIfInBounds_toArray, List.set_cons_succ, List.set_cons_zero]
                      refine Rob.y (v := ?_) rfl rfl (fun w1 hx hH => ?_) ?_; rotate_left
                      · go_simp; first | done | rfl | exact (Bool.not_not _).symm
                      simp only [Act.put, List.setIfInBounds_toArray, List.set_cons_succ, List.set_cons_zero]
              refine fin_nil (fun w3 hx3 _ => ?_)
              have X3 := ext_trans (ext_trans (ext_alloc (ext_alloc hX _) _) hx2) hx3
              clear hc hf hne
              go_wp2_with fail
              exact ⟨⟨i + 1, by omega, by go_num, X3, HR2⟩, by simp [intOf]; omega⟩
            · have hne : (((i : Nat) : Int) != ((k : Nat) : Int)) = true := by simp; omega
              have hned : decide (i ≠ k) = true := by simp [hik]
              have HN := Lib.hid hned; clear hned
              go_wp2_with fail
              refine wp_region_ext [5, 10, 15, 17, 22, 24] [0, 1, 2, 3, 4, 5, 6, 7, 8, 9, 10, 11, 12, 13, 14, 16, 15, 17, 18, 19, 20, 21, 23, 22, 24, 25, 26] [] [] (by kernel_rfl) (by kernel_rfl) ?late ?_
              case late => exact fun f hf => absurd hf List.not_mem_nil
              iterate 4
                refine Rob.y (v := ?_) rfl rfl (fun w1 hx hH => ?_) ?_; rotate_left
                · go_simp; first | done | rfl | exact (Bool.not_not _).symm
                simp only [Act.put, List.setIfInBounds_toArray, List.set_cons_succ, List.set_cons_zero]
              refine Rob.yg (v := ?_) rfl rfl (fun w1 hx hH => ?_) ?_; rotate_left
              · (obtain ⟨hcx, hfx⟩ := bcell hx); go_simp; first | done | rfl
              simp only [Act.put, List.setIfInBounds_toArray, List.set_cons_succ, List.set_cons_zero]
              refine Rob.cv (.int .i64 (most f[i].pages)) rfl rfl rfl (fun _ _ => ext_trans) (fun w1 hx hH => ?_) (fun lo5 hi5 hlo5 hhi5 => ?_)
              · unfold RunTo; go_simp; exact (l3Most_c _ f[i].pages f[i].worn _ (hpp.ext (ext_trans (ext_alloc (ext_alloc hX _) _) hx)) hpl).mono fun e w' h => h.to
              simp only [Act.put, List.setIfInBounds_toArray, List.set_cons_succ, List.set_cons_zero]
              refine Rob.yg (v := ?_) rfl rfl (fun w1 hx hH => ?_) ?_; rotate_left
              · go_simp; first | done | rfl | exact (Bool.not_not _).symm
              simp only [Act.put, List.setIfInBounds_toArray, List.set_cons_succ, List.set_cons_zero]
              refine Rob.y (v := ?_) rfl rfl (fun w1 hx hH => ?_) ?_; rotate_left
              · go_simp; first | done | rfl | exact (Bool.not_not _).symm
              simp only [Act.put, List.setIfInBounds_toArray, List.set_cons_succ, List.set_cons_zero]
              refine Rob.yB (b := ?_) rfl rfl (fun w1 hx hH => ?_) (fun hb8 => ?_) (fun hb8 => ?_); rotate_left
              · go_simp; first | done | rfl | exact (Bool.not_not _).symm
              focus
                try contradiction
                all_goals
                  simp only [Act.put, List.setIfInBounds_toArray, List.set_cons_succ, List.set_cons_zero]
                  refine Rob.yg (v := ?_) rfl rfl (fun w1 hx hH => ?_) ?_; rotate_left
                  · (obtain ⟨hcx, hfx⟩ := bcell hx); go_simp; first | done | rfl
                  simp only [Act.put, List.setIfInBounds_toArray, List.set_cons_succ, List.set_cons_zero]
                  refine Rob.cv (.int .i64 (most f[k].pages)) rfl rfl rfl (fun _ _ => ext_trans) (fun w1 hx hH => ?_) (fun lo10 hi10 hlo10 hhi10 => ?_)
                  · unfold RunTo; go_simp; exact (l3Most_c _ f[k].pages f[k].worn _ (hpp2.ext (ext_trans (ext_alloc (ext_alloc hX _) _) hx)) hpl2).mono fun e w' h => h.to
                  simp only [Act.put, List.setIfInBounds_toArray, List.set_cons_succ, List.set_cons_zero]
                  refine Rob.yg (v := ?_) rfl rfl (fun w1 hx hH => ?_) ?_; rotate_left
                  · go_simp; first | done | rfl | exact (Bool.not_not _).symm
                  simp only [Act.put, List.setIfInBounds_toArray, List.set_cons_succ, List.set_cons_zero]
                  refine Rob.y (v := ?_) rfl rfl (fun w1 hx hH => ?_) ?_; rotate_left
                  · go_simp; first | done | rfl | exact (Bool.not_not _).symm
                  simp only [Act.put, List.setIfInBounds_toArray, List.set_cons_succ, List.set_cons_zero]
                  refine Rob.yB (b := ?_) rfl rfl (fun w1 hx hH => ?_) (fun hb13 => ?_) (fun hb13 => ?_); rotate_left
                  · go_simp; first | done | rfl | exact (Bool.not_not _).symm
                  focus
                    try contradiction
                    all_goals
                      simp only [Act.put, List.setIfInBounds_toArray, List.set_cons_succ, List.set_cons_zero]
                      iterate 2
                        refine Rob.yg (v := ?_) rfl rfl (fun w1 hx hH => ?_) ?_; rotate_left
                        · (obtain ⟨hcx, hfx⟩ := bcell hx); go_simp; first | done | rfl
                        simp only [Act.put, List.setIfInBounds_toArray, List.set_cons_succ, List.set_cons_zero]
                      refine Rob.cv (.int .i64 (least f[i].pages)) rfl rfl rfl (fun _ _ => ext_trans) (fun w1 hx hH => ?_) (fun lo15 hi15 hlo15 hhi15 => ?_)
                      · unfold RunTo; go_simp; exact (l3Least_c _ f[i].pages f[i].worn _ (hpp.ext (ext_trans (ext_alloc (ext_alloc hX _) _) hx)) hpl).mono fun e w' h => h.to
                      simp only [Act.put, List.setIfInBounds_toArray, List.set_cons_succ, List.set_cons_zero]
                      refine Rob.cv (.int .i64 (most f[k].pages)) rfl rfl rfl (fun _ _ => ext_trans) (fun w1 hx hH => ?_) (fun lo17 hi17 hlo17 hhi17 => ?_)
                      · unfold RunTo; go_simp; exact (l3Most_c _ f[k].pages f[k].worn _ (hpp2.ext (ext_trans (ext_alloc (ext_alloc hX _) _) hx)) hpl2).mono fun e w' h => h.to
                      simp only [Act.put, List.setIfInBounds_toArray, List.set_cons_succ, List.set_cons_zero]
                      refine Rob.yg (v := ?_) rfl rfl (fun w1 hx hH => ?_) ?_; rotate_left
                      · go_simp; first | done | rfl | exact (Bool.not_not _).symm
                      simp only [Act.put, List.setIfInBounds_toArray, List.set_cons_succ, List.set_cons_zero]
                      refine Rob.y (v := ?_) rfl rfl (fun w1 hx hH => ?_) ?_; rotate_left
                      · go_simp; first | done | rfl | exact (Bool.not_not _).symm
                      simp only [Act.put, List.setIfInBounds_toArray, List.set_cons_succ, List.set_cons_zero]
                      refine Rob.yB (b := ?_) rfl rfl (fun w1 hx hH => ?_) (fun hb20 => ?_) (fun hb20 => ?_); rotate_left
                      · go_simp; first | done | rfl | exact (Bool.not_not _).symm
                      focus
                        try contradiction
                        all_goals
                          simp only [Act.put, List.setIfInBounds_toArray, List.set_cons_succ, List.set_cons_zero]
                          iterate 2
                            refine Rob.yg (v := ?_) rfl rfl (fun w1 hx hH => ?_) ?_; rotate_left
                            · (obtain ⟨hcx, hfx⟩ := bcell hx); go_simp; first | done | rfl
                            simp only [Act.put, List.setIfInBounds_toArray, List.set_cons_succ, List.set_cons_zero]
                          refine Rob.cv (.int .i64 (least f[k].pages)) rfl rfl rfl (fun _ _ => ext_trans) (fun w1 hx hH => ?_) (fun lo22 hi22 hlo22 hhi22 => ?_)
                          · unfold RunTo; go_simp; exact (l3Least_c _ f[k].pages f[k].worn _ (hpp2.ext (ext_trans (ext_alloc (ext_alloc hX _) _) hx)) hpl2).mono fun e w' h => h.to
                          simp only [Act.put, List.setIfInBounds_toArray, List.set_cons_succ, List.set_cons_zero]
                          refine Rob.cv (.int .i64 (most f[i].pages)) rfl rfl rfl (fun _ _ => ext_trans) (fun w1 hx hH => ?_) (fun lo24 hi24 hlo24 hhi24 => ?_)
                          · unfold RunTo; go_simp; exact (l3Most_c _ f[i].pages f[i].worn _ (hpp.ext (ext_trans (ext_alloc (ext_alloc hX _) _) hx)) hpl).mono fun e w' h => h.to
                          simp only [Act.put, List.setIfInBounds_toArray, List.set_cons_succ, List.set_cons_zero]
                          refine Rob.yg (v := ?_) rfl rfl (fun w1 hx hH => ?_) ?_; rotate_left
                          · go_simp; first | done | rfl | exact (Bool.not_not _).symm
                          simp only [Act.put, List.setIfInBounds_toArray, List.set_cons_succ, List.set_cons_zero]
                          refine Rob.y (v := ?_) rfl rfl (fun w1 hx hH => ?_) ?_; rotate_left
                          · go_simp; first | done | rfl | exact (Bool.not_not _).symm
                          simp only [Act.put, List.setIfInBounds_toArray, List.set_cons_succ, List.set_cons_zero]
                      rotate_right
                      focus
                        try contradiction
                        all_goals
                          simp only [Act.put, List.setIfInBounds_toArray, List.set_cons_succ, List.set_cons_zero]
                          iterate 5
                            refine Rob.no rfl rfl ?_
                            simp only [Act.put, List.setIfInBounds_toArray, List.set_cons_succ, List.set_cons_zero]
                          refine Rob.y (v := ?_) rfl rfl (fun w1 hx hH => ?_) ?_; rotate_left
                          · go_simp; first | done | rfl | exact (Bool.not_not _).symm
                          simp only [Act.put, List.setIfInBounds_toArray, List.set_cons_succ, List.set_cons_zero]
                  rotate_right
                  focus
                    try contradiction
                    all_goals
                      simp only [Act.put, List.setIfInBounds_toArray, List.set_cons_succ, List.set_cons_zero]
                      iterate 5
                        refine Rob.no rfl rfl ?_
                        simp only [Act.put, List.setIfInBounds_toArray, List.set_cons_succ, List.set_cons_zero]
                      refine Rob.y (v := ?_) rfl rfl (fun w1 hx hH => ?_) ?_; rotate_left
                      · go_simp; first | done | rfl | exact (Bool.not_not _).symm
                      simp only [Act.put, List.setIfInBounds_toArray, List.set_cons_succ, List.set_cons_zero]
                      refine Rob.yB (b := ?_) rfl rfl (fun w1 hx hH => ?_) (fun hb20 => ?_) (fun hb20 => ?_); rotate_left
                      · go_simp; first | done | rfl | exact (Bool.not_not _).symm
                      focus
                        try contradiction
                        all_goals
                          simp only [Act.put, List.setIfInBounds_toArray, List.set_cons_succ, List.set_cons_zero]
                          iterate 2
                            refine Rob.yg (v := ?_) rfl rfl (fun w1 hx hH => ?_) ?_; rotate_left
                            · (obtain ⟨hcx, hfx⟩ := bcell hx); go_simp; first | done | rfl
                            simp only [Act.put, List.setIfInBounds_toArray, List.set_cons_succ, List.set_cons_zero]
                          refine Rob.cv (.int .i64 (least f[k].pages)) rfl rfl rfl (fun _ _ => ext_trans) (fun w1 hx hH => ?_) (fun lo22 hi22 hlo22 hhi22 => ?_)
                          · unfold RunTo; go_simp; exact (l3Least_c _ f[k].pages f[k].worn _ (hpp2.ext (ext_trans (ext_alloc (ext_alloc hX _) _) hx)) hpl2).mono fun e w' h => h.to
                          simp only [Act.put, List.setIfInBounds_toArray, List.set_cons_succ, List.set_cons_zero]
                          refine Rob.cv (.int .i64 (most f[i].pages)) rfl rfl rfl (fun _ _ => ext_trans) (fun w1 hx hH => ?_) (fun lo24 hi24 hlo24 hhi24 => ?_)
                          · unfold RunTo; go_simp; exact (l3Most_c _ f[i].pages f[i].worn _ (hpp.ext (ext_trans (ext_alloc (ext_alloc hX _) _) hx)) hpl).mono fun e w' h => h.to
                          simp only [Act.put, List.setIfInBounds_toArray, List.set_cons_succ, List.set_cons_zero]
                          refine Rob.yg (v := ?_) rfl rfl (fun w1 hx hH => ?_) ?_; rotate_left
                          · go_simp; first | done | rfl | exact (Bool.not_not _).symm
                          simp only [Act.put, List.setIfInBounds_toArray, List.set_cons_succ, List.set_cons_zero]
                          refine Rob.y (v := ?_) rfl rfl (fun w1 hx hH => ?_) ?_; rotate_left
                          · go_simp; first | done | rfl | exact (Bool.not_not _).symm
                          simp only [Act.put, List.setIfInBounds_toArray, List.set_cons_succ, List.set_cons_zero]
                      rotate_right
                      focus
                        try contradiction
                        all_goals
                          simp only [Act.put, List.setIfInBounds_toArray, List.set_cons_succ, List.set_cons_zero]
                          iterate 5
                            refine Rob.no rfl rfl ?_
                            simp only [Act.put, List.setIfInBounds_toArray, List.set_cons_succ, List.set_cons_zero]
                          refine Rob.y (v := ?_) rfl rfl (fun w1 hx hH => ?_) ?_; rotate_left
                          · go_simp; first | done | rfl | exact (Bool.not_not _).symm
                          simp only [Act.put, List.setIfInBounds_toArray, List.set_cons_succ, List.set_cons_zero]
              rotate_right
              focus
                try contradiction
                all_goals
                  simp only [Act.put, List.setIfInBounds_toArray, List.set_cons_succ, List.set_cons_zero]
                  iterate 3
                    refine Rob.no rfl rfl ?_
                    simp only [Act.put, List.setIfInBounds_toArray, List.set_cons_succ, List.set_cons_zero]
                  refine Rob.y (v := ?_) rfl rfl (fun w1 hx hH => ?_) ?_; rotate_left
                  · go_simp; first | done | rfl | exact (Bool.not_not _).symm
                  simp only [Act.put, List.setIfInBounds_toArray, List.set_cons_succ, List.set_cons_zero]
                  refine Rob.yB (b := ?_) rfl rfl (fun w1 hx hH => ?_) (fun hb13 => ?_) (fun hb13 => ?_); rotate_left
                  · go_simp; first | done | rfl | exact (Bool.not_not _).symm
                  focus
                    try contradiction
                    all_goals
                      simp only [Act.put, List.setIfInBounds_toArray, List.set_cons_succ, List.set_cons_zero]
                      iterate 2
                        refine Rob.yg (v := ?_) rfl rfl (fun w1 hx hH => ?_) ?_; rotate_left
                        · (obtain ⟨hcx, hfx⟩ := bcell hx); go_simp; first | done | rfl
                        simp only [Act.put, List.setIfInBounds_toArray, List.set_cons_succ, List.set_cons_zero]
                      refine Rob.cv (.int .i64 (least f[i].pages)) rfl rfl rfl (fun _ _ => ext_trans) (fun w1 hx hH => ?_) (fun lo15 hi15 hlo15 hhi15 => ?_)
                      · unfold RunTo; go_simp; exact (l3Least_c _ f[i].pages f[i].worn _ (hpp.ext (ext_trans (ext_alloc (ext_alloc hX _) _) hx)) hpl).mono fun e w' h => h.to
                      simp only [Act.put, List.setIfInBounds_toArray, List.set_cons_succ, List.set_cons_zero]
                      refine Rob.cv (.int .i64 (most f[k].pages)) rfl rfl rfl (fun _ _ => ext_trans) (fun w1 hx hH => ?_) (fun lo17 hi17 hlo17 hhi17 => ?_)
                      · unfold RunTo; go_simp; exact (l3Most_c _ f[k].pages f[k].worn _ (hpp2.ext (ext_trans (ext_alloc (ext_alloc hX _) _) hx)) hpl2).mono fun e w' h => h.to
                      simp only [Act.put, List.setIfInBounds_toArray, List.set_cons_succ, List.set_cons_zero]
                      refine Rob.yg (v := ?_) rfl rfl (fun w1 hx hH => ?_) ?_; rotate_left
                      · go_simp; first | done | rfl | exact (Bool.not_not _).symm
                      simp only [Act.put, List.setIfInBounds_toArray, List.set_cons_succ, List.set_cons_zero]
                      refine Rob.y (v := ?_) rfl rfl (fun w1 hx hH => ?_) ?_; rotate_left
                      · go_simp; first | done | rfl | exact (Bool.not_not _).symm
                      simp only [Act.put, List.setIfInBounds_toArray, List.set_cons_succ, List.set_cons_zero]
                      refine Rob.yB (b := ?_) rfl rfl (fun w1 hx hH => ?_) (fun hb20 => ?_) (fun hb20 => ?_); rotate_left
                      · go_simp; first | done | rfl | exact (Bool.not_not _).symm
                      focus
                        try contradiction
                        all_goals
                          simp only [Act.put, List.setIfInBounds_toArray, List.set_cons_succ, List.set_cons_zero]
                          iterate 2
                            refine Rob.yg (v := ?_) rfl rfl (fun w1 hx hH => ?_) ?_; rotate_left
                            · (obtain ⟨hcx, hfx⟩ := bcell hx); go_simp; first | done | rfl
                            simp only [Act.put, List.setIfInBounds_toArray, List.set_cons_succ, List.set_cons_zero]
                          refine Rob.cv (.int .i64 (least f[k].pages)) rfl rfl rfl (fun _ _ => ext_trans) (fun w1 hx hH => ?_) (fun lo22 hi22 hlo22 hhi22 => ?_)
                          · unfold RunTo; go_simp; exact (l3Least_c _ f[k].pages f[k].worn _ (hpp2.ext (ext_trans (ext_alloc (ext_alloc hX _) _) hx)) hpl2).mono fun e w' h => h.to
                          simp only [Act.put, List.setIfInBounds_toArray, List.set_cons_succ, List.set_cons_zero]
                          refine Rob.cv (.int .i64 (most f[i].pages)) rfl rfl rfl (fun _ _ => ext_trans) (fun w1 hx hH => ?_) (fun lo24 hi24 hlo24 hhi24 => ?_)
                          · unfold RunTo; go_simp; exact (l3Most_c _ f[i].pages f[i].worn _ (hpp.ext (ext_trans (ext_alloc (ext_alloc hX _) _) hx)) hpl).mono fun e w' h => h.to
                          simp only [Act.put, List.setIfInBounds_toArray, List.set_cons_succ, List.set_cons_zero]
                          refine Rob.yg (v := ?_) rfl rfl (fun w1 hx hH => ?_) ?_; rotate_left
                          · go_simp; first | done | rfl | exact (Bool.not_not _).symm
                          simp only [Act.put, List.setIfInBounds_toArray, List.set_cons_succ, List.set_cons_zero]
                          refine Rob.y (v := ?_) rfl rfl (fun w1 hx hH => ?_) ?_; rotate_left
                          · go_simp; first | done | rfl | exact (Bool.not_not _).symm
                          simp only [Act.put, List.setIfInBounds_toArray, List.set_cons_succ, List.set_cons_zero]
                      rotate_right
                      focus
                        try contradiction
                        all_goals
                          simp only [Act.put, List.setIfInBounds_toArray, List.set_cons_succ, List.set_cons_zero]
                          iterate 5
                            refine Rob.no rfl rfl ?_
                            simp only [Act.put, List.setIfInBounds_toArray, List.set_cons_succ, List.set_cons_zero]
                          refine Rob.y (v := ?_) rfl rfl (fun w1 hx hH => ?_) ?_; rotate_left
                          · go_simp; first | done | rfl | exact (Bool.not_not _).symm
                          simp only [Act.put, List.setIfInBounds_toArray, List.set_cons_succ, List.set_cons_zero]
                  rotate_right
                  focus
                    try contradiction
                    all_goals
                      simp only [Act.put, List.setIfInBounds_toArray, List.set_cons_succ, List.set_cons_zero]
                      iterate 5
                        refine Rob.no rfl rfl ?_
                        simp only [Act.put, List.setIfInBounds_toArray, List.set_cons_succ, List.set_cons_zero]
                      refine Rob.y (v := ?_) rfl rfl (fun w1 hx hH => ?_) ?_; rotate_left
                      · go_simp; first | done | rfl | exact (Bool.not_not _).symm
                      simp only [Act.put, List.setIfInBounds_toArray, List.set_cons_succ, List.set_cons_zero]
                      refine Rob.yB (b := ?_) rfl rfl (fun w1 hx hH => ?_) (fun hb20 => ?_) (fun hb20 => ?_); rotate_left
                      · go_simp; first | done | rfl | exact (Bool.not_not _).symm
                      focus
                        try contradiction
                        all_goals
                          simp only [Act.put, List.setIfInBounds_toArray, List.set_cons_succ, List.set_cons_zero]
                          iterate 2
                            refine Rob.yg (v := ?_) rfl rfl (fun w1 hx hH => ?_) ?_; rotate_left
                            · (obtain ⟨hcx, hfx⟩ := bcell hx); go_simp; first | done | rfl
                            simp only [Act.put, List.setIfInBounds_toArray, List.set_cons_succ, List.set_cons_zero]
                          refine Rob.cv (.int .i64 (least f[k].pages)) rfl rfl rfl (fun _ _ => ext_trans) (fun w1 hx hH => ?_) (fun lo22 hi22 hlo22 hhi22 => ?_)
                          · unfold RunTo; go_simp; exact (l3Least_c _ f[k].pages f[k].worn _ (hpp2.ext (ext_trans (ext_alloc (ext_alloc hX _) _) hx)) hpl2).mono fun e w' h => h.to
                          simp only [Act.put, List.setIfInBounds_toArray, List.set_cons_succ, List.set_cons_zero]
                          refine Rob.cv (.int .i64 (most f[i].pages)) rfl rfl rfl (fun _ _ => ext_trans) (fun w1 hx hH => ?_) (fun lo24 hi24 hlo24 hhi24 => ?_)
                          · unfold RunTo; go_simp; exact (l3Most_c _ f[i].pages f[i].worn _ (hpp.ext (ext_trans (ext_alloc (ext_alloc hX _) _) hx)) hpl).mono fun e w' h => h.to
                          simp only [Act.put, List.setIfInBounds_toArray, List.set_cons_succ, List.set_cons_zero]
                          refine Rob.yg (v := ?_) rfl rfl (fun w1 hx hH => ?_) ?_; rotate_left
                          · go_simp; first | done | rfl | exact (Bool.not_not _).symm
                          simp only [Act.put, List.setIfInBounds_toArray, List.set_cons_succ, List.set_cons_zero]
                          refine Rob.y (v := ?_) rfl rfl (fun w1 hx hH => ?_) ?_; rotate_left
                          · go_simp; first | done | rfl | exact (Bool.not_not _).symm
                          simp only [Act.put, List.setIfInBounds_toArray, List.set_cons_succ, List.set_cons_zero]
                      rotate_right
                      focus
                        try contradiction
                        all_goals
                          simp only [Act.put, List.setIfInBounds_toArray, List.set_cons_succ, List.set_cons_zero]
                          iterate 5
                            refine Rob.no rfl rfl ?_
                            simp only [Act.put, List.setIfInBounds_toArray, List.set_cons_succ, List.set_cons_zero]
                          refine Rob.y (v := ?_) rfl rfl (fun w1 hx hH => ?_) ?_; rotate_left
                          · go_simp; first | done | rfl | exact (Bool.not_not _).symm
                          simp only [Act.put, List.setIfInBounds_toArray, List.set_cons_succ, List.set_cons_zero]
              all_goals
                refine fin_nil (fun w2 hx2 _ => ?_)
                have X2 := ext_trans (ext_alloc (ext_alloc hX _) _) hx2
                go_wp2_with fail
              all_goals try
                go_ret
                have hr := HR.out
                rw [if_pos (by simp [badPair, hik, *])] at hr
                exact ⟨by rw [← hr]; rfl, X2⟩
              all_goals
                have hb1 : (decide (i ≠ k) && decide (0 < most f[i].pages) && decide (0 < most f[k].pages) && decide (least f[i].pages < most f[k].pages) && decide (least f[k].pages < most f[i].pages)) = false := by simp [hik, *]
                have HB1 := Lib.hid hb1; clear hb1
                refine wp_region_ext [5, 10, 15, 19, 24, 28, 30] [0, 1, 2, 3, 4, 5, 6, 7, 8, 9, 10, 11, 12, 13, 14, 15, 16, 17, 18, 19, 20, 21, 22, 23, 24, 25, 26, 27, 29, 28, 30, 31, 32, 33, 34] [] [] (by kernel_rfl) (by kernel_rfl) ?late ?_
                case late => exact fun f hf => absurd hf List.not_mem_nil
                iterate 4
                  refine Rob.y (v := ?_) rfl rfl (fun w1 hx hH => ?_) ?_; rotate_left
                  · go_simp; first | done | rfl | exact (Bool.not_not _).symm
                  simp only [Act.put, List.setIfInBounds_toArray, List.set_cons_succ, List.set_cons_zero]
                refine Rob.yg (v := ?_) rfl rfl (fun w1 hx hH => ?_) ?_; rotate_left
                · (obtain ⟨hcx, hfx⟩ := bcell (ext_trans hx2 hx)); go_simp; first | done | rfl
                simp only [Act.put, List.setIfInBounds_toArray, List.set_cons_succ, List.set_cons_zero]
                refine Rob.cv (.int .i64 (cleanN f[i].pages)) rfl rfl rfl (fun _ _ => ext_trans) (fun w1 hx hH => ?_) (fun lo5 hi5 hlo5 hhi5 => ?_)
                · unfold RunTo; go_simp; exact (l2Clean_c _ f[i].pages f[i].worn _ (hpp.ext (ext_trans X2 hx)) hpl).mono fun e w' h => h.to
                simp only [Act.put, List.setIfInBounds_toArray, List.set_cons_succ, List.set_cons_zero]
                refine Rob.yg (v := ?_) rfl rfl (fun w1 hx hH => ?_) ?_; rotate_left
                · go_simp; first | done | rfl | exact (Bool.not_not _).symm
                simp only [Act.put, List.setIfInBounds_toArray, List.set_cons_succ, List.set_cons_zero]
                refine Rob.y (v := ?_) rfl rfl (fun w1 hx hH => ?_) ?_; rotate_left
                · go_simp; first | done | rfl | exact (Bool.not_not _).symm
                simp only [Act.put, List.setIfInBounds_toArray, List.set_cons_succ, List.set_cons_zero]
                refine Rob.yB (b := ?_) rfl rfl (fun w1 hx hH => ?_) (fun hb8 => ?_) (fun hb8 => ?_); rotate_left
                · go_simp; first | done | rfl | exact (Bool.not_not _).symm
                focus
                  try contradiction
                  all_goals
                    simp only [Act.put, List.setIfInBounds_toArray, List.set_cons_succ, List.set_cons_zero]
                    refine Rob.yg (v := ?_) rfl rfl (fun w1 hx hH => ?_) ?_; rotate_left
                    · (obtain ⟨hcx, hfx⟩ := bcell (ext_trans hx2 hx)); go_simp; first | done | rfl
                    simp only [Act.put, List.setIfInBounds_toArray, List.set_cons_succ, List.set_cons_zero]
                    refine Rob.cv (.int .i64 (cleanN f[i].pages)) rfl rfl rfl (fun _ _ => ext_trans) (fun w1 hx hH => ?_) (fun lo10 hi10 hlo10 hhi10 => ?_)
                    · unfold RunTo; go_simp; exact (l2Clean_c _ f[i].pages f[i].worn _ (hpp.ext (ext_trans X2 hx)) hpl).mono fun e w' h => h.to
                    simp only [Act.put, List.setIfInBounds_toArray, List.set_cons_succ, List.set_cons_zero]
                    refine Rob.yg (v := ?_) rfl rfl (fun w1 hx hH => ?_) ?_; rotate_left
                    · go_simp; first | done | rfl | exact (Bool.not_not _).symm
                    simp only [Act.put, List.setIfInBounds_toArray, List.set_cons_succ, List.set_cons_zero]
                    refine Rob.y (v := ?_) rfl rfl (fun w1 hx hH => ?_) ?_; rotate_left
                    · go_simp; first | done | rfl | exact (Bool.not_not _).symm
                    simp only [Act.put, List.setIfInBounds_toArray, List.set_cons_succ, List.set_cons_zero]
                    refine Rob.yB (b := ?_) rfl rfl (fun w1 hx hH => ?_) (fun hb13 => ?_) (fun hb13 => ?_); rotate_left
                    · go_simp; first | done | rfl | exact (Bool.not_not _).symm
                    focus
                      try contradiction
                      all_goals
                        simp only [Act.put, List.setIfInBounds_toArray, List.set_cons_succ, List.set_cons_zero]
                        refine Rob.yg (v := ?_) rfl rfl (fun w1 hx hH => ?_) ?_; rotate_left
                        · (obtain ⟨hcx, hfx⟩ := bcell (ext_trans hx2 hx)); go_simp; first | done | rfl
                        simp only [Act.put, List.setIfInBounds_toArray, List.set_cons_succ, List.set_cons_zero]
                        refine Rob.cv (.int .i64 (cleanN f[k].pages)) rfl rfl rfl (fun _ _ => ext_trans) (fun w1 hx hH => ?_) (fun lo15 hi15 hlo15 hhi15 => ?_)
                        · unfold RunTo; go_simp; exact (l2Clean_c _ f[k].pages f[k].worn _ (hpp2.ext (ext_trans X2 hx)) hpl2).mono fun e w' h => h.to
                        simp only [Act.put, List.setIfInBounds_toArray, List.set_cons_succ, List.set_cons_zero]
                        refine Rob.yg (v := ?_) rfl rfl (fun w1 hx hH => ?_) ?_; rotate_left
                        · go_simp; first | done | rfl | exact (Bool.not_not _).symm
                        simp only [Act.put, List.setIfInBounds_toArray, List.set_cons_succ, List.set_cons_zero]
                        refine Rob.yB (b := ?_) rfl rfl (fun w1 hx hH => ?_) (fun hb17 => ?_) (fun hb17 => ?_); rotate_left
                        · go_simp; first | done | rfl | exact (Bool.not_not _).symm
                        focus
                          try contradiction
                          all_goals
                            simp only [Act.put, List.setIfInBounds_toArray, List.set_cons_succ, List.set_cons_zero]
                            refine Rob.yg (v := ?_) rfl rfl (fun w1 hx hH => ?_) ?_; rotate_left
                            · (obtain ⟨hcx, hfx⟩ := bcell (ext_trans hx2 hx)); go_simp; first | done | rfl
                            simp only [Act.put, List.setIfInBounds_toArray, List.set_cons_succ, List.set_cons_zero]
                            refine Rob.cv (.int .i64 (cleanN f[k].pages)) rfl rfl rfl (fun _ _ => ext_trans) (fun w1 hx hH => ?_) (fun lo19 hi19 hlo19 hhi19 => ?_)
                            · unfold RunTo; go_simp; exact (l2Clean_c _ f[k].pages f[k].worn _ (hpp2.ext (ext_trans X2 hx)) hpl2).mono fun e w' h => h.to
                            simp only [Act.put, List.setIfInBounds_toArray, List.set_cons_succ, List.set_cons_zero]
                            iterate 2
                              refine Rob.yg (v := ?_) rfl rfl (fun w1 hx hH => ?_) ?_; rotate_left
                              · go_simp; first | done | rfl | exact (Bool.not_not _).symm
                              simp only [Act.put, List.setIfInBounds_toArray, List.set_cons_succ, List.set_cons_zero]
                            refine Rob.yB (b := ?_) rfl rfl (fun w1 hx hH => ?_) (fun hb22 => ?_) (fun hb22 => ?_); rotate_left
                            · go_simp; first | done | rfl | exact (Bool.not_not _).symm
                            focus
                              try contradiction
                              all_goals
                                simp only [Act.put, List.setIfInBounds_toArray, List.set_cons_succ, List.set_cons_zero]
                                iterate 10
                                  refine Rob.no rfl rfl ?_
                                  simp only [Act.put, List.setIfInBounds_toArray, List.set_cons_succ, List.set_cons_zero]
                                refine Rob.yg (v := ?_) rfl rfl (fun w1 hx hH => ?_) ?_; rotate_left
                                · go_simp; first | done | rfl | exact (Bool.not_not _).symm
                                simp only [Act.put, List.setIfInBounds_toArray, List.set_cons_succ, List.set_cons_zero]
                                refine Rob.y (v := ?_) rfl rfl (fun w1 hx hH => ?_) ?_; rotate_left
                                · go_simp; first | done | rfl | exact (Bool.not_not _).symm
                                simp only [Act.put, List.setIfInBounds_toArray, List.set_cons_succ, List.set_cons_zero]
                            rotate_right
                            focus
                              try contradiction
                              all_goals
                                simp only [Act.put, List.setIfInBounds_toArray, List.set_cons_succ, List.set_cons_zero]
                                refine Rob.yg (v := ?_) rfl rfl (fun w1 hx hH => ?_) ?_; rotate_left
                                · (obtain ⟨hcx, hfx⟩ := bcell (ext_trans hx2 hx)); go_simp; first | done | rfl
                                simp only [Act.put, List.setIfInBounds_toArray, List.set_cons_succ, List.set_cons_zero]
                                refine Rob.cv (.int .i64 (most f[i].pages)) rfl rfl rfl (fun _ _ => ext_trans) (fun w1 hx hH => ?_) (fun lo24 hi24 hlo24 hhi24 => ?_)
                                · unfold RunTo; go_simp; exact (l3Most_c _ f[i].pages f[i].worn _ (hpp.ext (ext_trans X2 hx)) hpl).mono fun e w' h => h.to
                                simp only [Act.put, List.setIfInBounds_toArray, List.set_cons_succ, List.set_cons_zero]
                                refine Rob.yg (v := ?_) rfl rfl (fun w1 hx hH => ?_) ?_; rotate_left
                                · go_simp; first | done | rfl | exact (Bool.not_not _).symm
                                simp only [Act.put, List.setIfInBounds_toArray, List.set_cons_succ, List.set_cons_zero]
                                refine Rob.yB (b := ?_) rfl rfl (fun w1 hx hH => ?_) (fun hb26 => ?_) (fun hb26 => ?_); rotate_left
                                · go_simp; first | done | rfl | exact (Bool.not_not _).symm
                                focus
                                  try contradiction
                                  all_goals
                                    simp only [Act.put, List.setIfInBounds_toArray, List.set_cons_succ, List.set_cons_zero]
                                    iterate 2
                                      refine Rob.yg (v := ?_) rfl rfl (fun w1 hx hH => ?_) ?_; rotate_left
                                      · (obtain ⟨hcx, hfx⟩ := bcell (ext_trans hx2 hx)); go_simp; first | done | rfl
                                      simp only [Act.put, List.setIfInBounds_toArray, List.set_cons_succ, List.set_cons_zero]
                                    refine Rob.cv (.int .i64 (most f[k].pages)) rfl rfl rfl (fun _ _ => ext_trans) (fun w1 hx hH => ?_) (fun lo28 hi28 hlo28 hhi28 => ?_)
                                    · unfold RunTo; go_simp; exact (l3Most_c _ f[k].pages f[k].worn _ (hpp2.ext (ext_trans X2 hx)) hpl2).mono fun e w' h => h.to
                                    simp only [Act.put, List.setIfInBounds_toArray, List.set_cons_succ, List.set_cons_zero]
                                    refine Rob.cv (.int .i64 (most f[i].pages)) rfl rfl rfl (fun _ _ => ext_trans) (fun w1 hx hH => ?_) (fun lo30 hi30 hlo30 hhi30 => ?_)
                                    · unfold RunTo; go_simp; exact (l3Most_c _ f[i].pages f[i].worn _ (hpp.ext (ext_trans X2 hx)) hpl).mono fun e w' h => h.to
                                    simp only [Act.put, List.setIfInBounds_toArray, List.set_cons_succ, List.set_cons_zero]
                                    iterate 3
                                      refine Rob.yg (v := ?_) rfl rfl (fun w1 hx hH => ?_) ?_; rotate_left
                                      · go_simp; first | done | rfl | exact (Bool.not_not _).symm
                                      simp only [Act.put, List.setIfInBounds_toArray, List.set_cons_succ, List.set_cons_zero]
                                    refine Rob.y (v := ?_) rfl rfl (fun w1 hx hH => ?_) ?_; rotate_left
                                    · go_simp; first | done | rfl | exact (Bool.not_not _).symm
                                    simp only [Act.put, List.setIfInBounds_toArray, List.set_cons_succ, List.set_cons_zero]
                                rotate_right
                                focus
                                  try contradiction
                                  all_goals
                                    simp only [Act.put, List.setIfInBounds_toArray, List.set_cons_succ, List.set_cons_zero]
                                    iterate 5
                                      refine Rob.no rfl rfl ?_
                                      simp only [Act.put, List.setIfInBounds_toArray, List.set_cons_succ, List.set_cons_zero]
                                    iterate 2
                                      refine Rob.yg (v := ?_) rfl rfl (fun w1 hx hH => ?_) ?_; rotate_left
                                      · go_simp; first | done | rfl | exact (Bool.not_not _).symm
                                      simp only [Act.put, List.setIfInBounds_toArray, List.set_cons_succ, List.set_cons_zero]
                                    refine Rob.y (v := ?_) rfl rfl (fun w1 hx hH => ?_) ?_; rotate_left
                                    · go_simp; first | done | rfl | exact (Bool.not_not _).symm
                                    simp only [Act.put, List.setIfInBounds_toArray, List.set_cons_succ, List.set_cons_zero]
                        rotate_right
                        focus
                          try contradiction
                          all_goals
                            simp only [Act.put, List.setIfInBounds_toArray, List.set_cons_succ, List.set_cons_zero]
                            iterate 3
                              refine Rob.no rfl rfl ?_
                              simp only [Act.put, List.setIfInBounds_toArray, List.set_cons_succ, List.set_cons_zero]
                            refine Rob.yg (v := ?_) rfl rfl (fun w1 hx hH => ?_) ?_; rotate_left
                            · go_simp; first | done | rfl | exact (Bool.not_not _).symm
                            simp only [Act.put, List.setIfInBounds_toArray, List.set_cons_succ, List.set_cons_zero]
                            refine Rob.yB (b := ?_) rfl rfl (fun w1 hx hH => ?_) (fun hb22 => ?_) (fun hb22 => ?_); rotate_left
                            · go_simp; first | done | rfl | exact (Bool.not_not _).symm
                            focus
                              try contradiction
                              all_goals
                                simp only [Act.put, List.setIfInBounds_toArray, List.set_cons_succ, List.set_cons_zero]
                                iterate 10
                                  refine Rob.no rfl rfl ?_
                                  simp only [Act.put, List.setIfInBounds_toArray, List.set_cons_succ, List.set_cons_zero]
                                refine Rob.yg (v := ?_) rfl rfl (fun w1 hx hH => ?_) ?_; rotate_left
                                · go_simp; first | done | rfl | exact (Bool.not_not _).symm
                                simp only [Act.put, List.setIfInBounds_toArray, List.set_cons_succ, List.set_cons_zero]
                                refine Rob.y (v := ?_) rfl rfl (fun w1 hx hH => ?_) ?_; rotate_left
                                · go_simp; first | done | rfl | exact (Bool.not_not _).symm
                                simp only [Act.put, List.setIfInBounds_toArray, List.set_cons_succ, List.set_cons_zero]
                            rotate_right
                            focus
                              try contradiction
                              all_goals
                                simp only [Act.put, List.setIfInBounds_toArray, List.set_cons_succ, List.set_cons_zero]
                                refine Rob.yg (v := ?_) rfl rfl (fun w1 hx hH => ?_) ?_; rotate_left
                                · (obtain ⟨hcx, hfx⟩ := bcell (ext_trans hx2 hx)); go_simp; first | done | rfl
                                simp only [Act.put, List.setIfInBounds_toArray, List.set_cons_succ, List.set_cons_zero]
                                refine Rob.cv (.int .i64 (most f[i].pages)) rfl rfl rfl (fun _ _ => ext_trans) (fun w1 hx hH => ?_) (fun lo24 hi24 hlo24 hhi24 => ?_)
                                · unfold RunTo; go_simp; exact (l3Most_c _ f[i].pages f[i].worn _ (hpp.ext (ext_trans X2 hx)) hpl).mono fun e w' h => h.to
                                simp only [Act.put, List.setIfInBounds_toArray, List.set_cons_succ, List.set_cons_zero]
                                refine Rob.yg (v := ?_) rfl rfl (fun w1 hx hH => ?_) ?_; rotate_left
                                · go_simp; first | done | rfl | exact (Bool.not_not _).symm
                                simp only [Act.put, List.setIfInBounds_toArray, List.set_cons_succ, List.set_cons_zero]
                                refine Rob.yB (b := ?_) rfl rfl (fun w1 hx hH => ?_) (fun hb26 => ?_) (fun hb26 => ?_); rotate_left
                                · go_simp; first | done | rfl | exact (Bool.not_not _).symm
                                focus
                                  try contradiction
                                  all_goals
                                    simp only [Act.put, List.setIfInBounds_toArray, List.set_cons_succ, List.set_cons_zero]
                                    iterate 2
                                      refine Rob.yg (v := ?_) rfl rfl (fun w1 hx hH => ?_) ?_; rotate_left
                                      · (obtain ⟨hcx, hfx⟩ := bcell (ext_trans hx2 hx)); go_simp; first | done | rfl
                                      simp only [Act.put, List.setIfInBounds_toArray, List.set_cons_succ, List.set_cons_zero]
                                    refine Rob.cv (.int .i64 (most f[k].pages)) rfl rfl rfl (fun _ _ => ext_trans) (fun w1 hx hH => ?_) (fun lo28 hi28 hlo28 hhi28 => ?_)
                                    · unfold RunTo; go_simp; exact (l3Most_c _ f[k].pages f[k].worn _ (hpp2.ext (ext_trans X2 hx)) hpl2).mono fun e w' h => h.to
                                    simp only [Act.put, List.setIfInBounds_toArray, List.set_cons_succ, List.set_cons_zero]
                                    refine Rob.cv (.int .i64 (most f[i].pages)) rfl rfl rfl (fun _ _ => ext_trans) (fun w1 hx hH => ?_) (fun lo30 hi30 hlo30 hhi30 => ?_)
                                    · unfold RunTo; go_simp; exact (l3Most_c _ f[i].pages f[i].worn _ (hpp.ext (ext_trans X2 hx)) hpl).mono fun e w' h => h.to
                                    simp only [Act.put, List.setIfInBounds_toArray, List.set_cons_succ, List.set_cons_zero]
                                    iterate 3
                                      refine Rob.yg (v := ?_) rfl rfl (fun w1 hx hH => ?_) ?_; rotate_left
                                      · go_simp; first | done | rfl | exact (Bool.not_not _).symm
                                      simp only [Act.put, List.setIfInBounds_toArray, List.set_cons_succ, List.set_cons_zero]
                                    refine Rob.y (v := ?_) rfl rfl (fun w1 hx hH => ?_) ?_; rotate_left
                                    · go_simp; first | done | rfl | exact (Bool.not_not _).symm
                                    simp only [Act.put, List.setIfInBounds_toArray, List.set_cons_succ, List.set_cons_zero]
                                rotate_right
                                focus
                                  try contradiction
                                  all_goals
                                    simp only [Act.put, List.setIfInBounds_toArray, List.set_cons_succ, List.set_cons_zero]
                                    iterate 5
                                      refine Rob.no rfl rfl ?_
                                      simp only [Act.put, List.setIfInBounds_toArray, List.set_cons_succ, List.set_cons_zero]
                                    iterate 2
                                      refine Rob.yg (v := ?_) rfl rfl (fun w1 hx hH => ?_) ?_; rotate_left
                                      · go_simp; first | done | rfl | exact (Bool.not_not _).symm
                                      simp only [Act.put, List.setIfInBounds_toArray, List.set_cons_succ, List.set_cons_zero]
                                    refine Rob.y (v := ?_) rfl rfl (fun w1 hx hH => ?_) ?_; rotate_left
                                    · go_simp; first | done | rfl | exact (Bool.not_not _).symm
                                    simp only [Act.put, List.setIfInBounds_toArray, List.set_cons_succ, List.set_cons_zero]
                    rotate_right
                    focus
                      try contradiction
                      all_goals
                        simp only [Act.put, List.setIfInBounds_toArray, List.set_cons_succ, List.set_cons_zero]
                        iterate 20
                          refine Rob.no rfl rfl ?_
                          simp only [Act.put, List.setIfInBounds_toArray, List.set_cons_succ, List.set_cons_zero]
                        refine Rob.y (v := ?_) rfl rfl (fun w1 hx hH => ?_) ?_; rotate_left
                        · go_simp; first | done | rfl | exact (Bool.not_not _).symm
                        simp only [Act.put, List.setIfInBounds_toArray, List.set_cons_succ, List.set_cons_zero]
                rotate_right
                focus
                  try contradiction
                  all_goals
                    simp only [Act.put, List.setIfInBounds_toArray, List.set_cons_succ, List.set_cons_zero]
                    iterate 3
                      refine Rob.no rfl rfl ?_
                      simp only [Act.put, List.setIfInBounds_toArray, List.set_cons_succ, List.set_cons_zero]
                    refine Rob.y (v := ?_) rfl rfl (fun w1 hx hH => ?_) ?_; rotate_left
                    · go_simp; first | done | rfl | exact (Bool.not_not _).symm
                    simp only [Act.put, List.setIfInBounds_toArray, List.set_cons_succ, List.set_cons_zero]
                    refine Rob.yB (b := ?_) rfl rfl (fun w1 hx hH => ?_) (fun hb13 => ?_) (fun hb13 => ?_); rotate_left
                    · go_simp; first | done | rfl | exact (Bool.not_not _).symm
                    focus
                      try contradiction
                      all_goals
                        simp only [Act.put, List.setIfInBounds_toArray, List.set_cons_succ, List.set_cons_zero]
                        refine Rob.yg (v := ?_) rfl rfl (fun w1 hx hH => ?_) ?_; rotate_left
                        · (obtain ⟨hcx, hfx⟩ := bcell (ext_trans hx2 hx)); go_simp; first | done | rfl
                        simp only [Act.put, List.setIfInBounds_toArray, List.set_cons_succ, List.set_cons_zero]
                        refine Rob.cv (.int .i64 (cleanN f[k].pages)) rfl rfl rfl (fun _ _ => ext_trans) (fun w1 hx hH => ?_) (fun lo15 hi15 hlo15 hhi15 => ?_)
                        · unfold RunTo; go_simp; exact (l2Clean_c _ f[k].pages f[k].worn _ (hpp2.ext (ext_trans X2 hx)) hpl2).mono fun e w' h => h.to
                        simp only [Act.put, List.setIfInBounds_toArray, List.set_cons_succ, List.set_cons_zero]
                        refine Rob.yg (v := ?_) rfl rfl (fun w1 hx hH => ?_) ?_; rotate_left
                        · go_simp; first | done | rfl | exact (Bool.not_not _).symm
                        simp only [Act.put, List.setIfInBounds_toArray, List.set_cons_succ, List.set_cons_zero]
                        refine Rob.yB (b := ?_) rfl rfl (fun w1 hx hH => ?_) (fun hb17 => ?_) (fun hb17 => ?_); rotate_left
                        · go_simp; first | done | rfl | exact (Bool.not_not _).symm
                        focus
                          try contradiction
                          all_goals
                            simp only [Act.put, List.setIfInBounds_toArray, List.set_cons_succ, List.set_cons_zero]
                            refine Rob.yg (v := ?_) rfl rfl (fun w1 hx hH => ?_) ?_; rotate_left
                            · (obtain ⟨hcx, hfx⟩ := bcell (ext_trans hx2 hx)); go_simp; first | done | rfl
                            simp only [Act.put, List.setIfInBounds_toArray, List.set_cons_succ, List.set_cons_zero]
                            refine Rob.cv (.int .i64 (cleanN f[k].pages)) rfl rfl rfl (fun _ _ => ext_trans) (fun w1 hx hH => ?_) (fun lo19 hi19 hlo19 hhi19 => ?_)
                            · unfold RunTo; go_simp; exact (l2Clean_c _ f[k].pages f[k].worn _ (hpp2.ext (ext_trans X2 hx)) hpl2).mono fun e w' h => h.to
                            simp only [Act.put, List.setIfInBounds_toArray, List.set_cons_succ, List.set_cons_zero]
                            iterate 2
                              refine Rob.yg (v := ?_) rfl rfl (fun w1 hx hH => ?_) ?_; rotate_left
                              · go_simp; first | done | rfl | exact (Bool.not_not _).symm
                              simp only [Act.put, List.setIfInBounds_toArray, List.set_cons_succ, List.set_cons_zero]
                            refine Rob.yB (b := ?_) rfl rfl (fun w1 hx hH => ?_) (fun hb22 => ?_) (fun hb22 => ?_); rotate_left
                            · go_simp; first | done | rfl | exact (Bool.not_not _).symm
                            focus
                              try contradiction
                              all_goals
                                simp only [Act.put, List.setIfInBounds_toArray, List.set_cons_succ, List.set_cons_zero]
                                iterate 10
                                  refine Rob.no rfl rfl ?_
                                  simp only [Act.put, List.setIfInBounds_toArray, List.set_cons_succ, List.set_cons_zero]
                                refine Rob.yg (v := ?_) rfl rfl (fun w1 hx hH => ?_) ?_; rotate_left
                                · go_simp; first | done | rfl | exact (Bool.not_not _).symm
                                simp only [Act.put, List.setIfInBounds_toArray, List.set_cons_succ, List.set_cons_zero]
                                refine Rob.y (v := ?_) rfl rfl (fun w1 hx hH => ?_) ?_; rotate_left
                                · go_simp; first | done | rfl | exact (Bool.not_not _).symm
                                simp only [Act.put, List.setIfInBounds_toArray, List.set_cons_succ, List.set_cons_zero]
                            rotate_right
                            focus
                              try contradiction
                              all_goals
                                simp only [Act.put, List.setIfInBounds_toArray, List.set_cons_succ, List.set_cons_zero]
                                refine Rob.yg (v := ?_) rfl rfl (fun w1 hx hH => ?_) ?_; rotate_left
                                · (obtain ⟨hcx, hfx⟩ := bcell (ext_trans hx2 hx)); go_simp; first | done | rfl
                                simp only [Act.put, List.setIfInBounds_toArray, List.set_cons_succ, List.set_cons_zero]
                                refine Rob.cv (.int .i64 (most f[i].pages)) rfl rfl rfl (fun _ _ => ext_trans) (fun w1 hx hH => ?_) (fun lo24 hi24 hlo24 hhi24 => ?_)
                                · unfold RunTo; go_simp; exact (l3Most_c _ f[i].pages f[i].worn _ (hpp.ext (ext_trans X2 hx)) hpl).mono fun e w' h => h.to
                                simp only [Act.put, List.setIfInBounds_toArray, List.set_cons_succ, List.set_cons_zero]
                                refine Rob.yg (v := ?_) rfl rfl (fun w1 hx hH => ?_) ?_; rotate_left
                                · go_simp; first | done | rfl | exact (Bool.not_not _).symm
                                simp only [Act.put, List.setIfInBounds_toArray, List.set_cons_succ, List.set_cons_zero]
                                refine Rob.yB (b := ?_) rfl rfl (fun w1 hx hH => ?_) (fun hb26 => ?_) (fun hb26 => ?_); rotate_left
                                · go_simp; first | done | rfl | exact (Bool.not_not _).symm
                                focus
                                  try contradiction
                                  all_goals
                                    simp only [Act.put, List.setIfInBounds_toArray, List.set_cons_succ, List.set_cons_zero]
                                    iterate 2
                                      refine Rob.yg (v := ?_) rfl rfl (fun w1 hx hH => ?_) ?_; rotate_left
                                      · (obtain ⟨hcx, hfx⟩ := bcell (ext_trans hx2 hx)); go_simp; first | done | rfl
                                      simp only [Act.put, List.setIfInBounds_toArray, List.set_cons_succ, List.set_cons_zero]
                                    refine Rob.cv (.int .i64 (most f[k].pages)) rfl rfl rfl (fun _ _ => ext_trans) (fun w1 hx hH => ?_) (fun lo28 hi28 hlo28 hhi28 => ?_)
                                    · unfold RunTo; go_simp; exact (l3Most_c _ f[k].pages f[k].worn _ (hpp2.ext (ext_trans X2 hx)) hpl2).mono fun e w' h => h.to
                                    simp only [Act.put, List.setIfInBounds_toArray, List.set_cons_succ, List.set_cons_zero]
                                    refine Rob.cv (.int .i64 (most f[i].pages)) rfl rfl rfl (fun _ _ => ext_trans) (fun w1 hx hH => ?_) (fun lo30 hi30 hlo30 hhi30 => ?_)
                                    · unfold RunTo; go_simp; exact (l3Most_c _ f[i].pages f[i].worn _ (hpp.ext (ext_trans X2 hx)) hpl).mono fun e w' h => h.to
                                    simp only [Act.put, List.setIfInBounds_toArray, List.set_cons_succ, List.set_cons_zero]
                                    iterate 3
                                      refine Rob.yg (v := ?_) rfl rfl (fun w1 hx hH => ?_) ?_; rotate_left
                                      · go_simp; first | done | rfl | exact (Bool.not_not _).symm
                                      simp only [Act.put, List.setIfInBounds_toArray, List.set_cons_succ, List.set_cons_zero]
                                    refine Rob.y (v := ?_) rfl rfl (fun w1 hx hH => ?_) ?_; rotate_left
                                    · go_simp; first | done | rfl | exact (Bool.not_not _).symm
                                    simp only [Act.put, List.setIfInBounds_toArray, List.set_cons_succ, List.set_cons_zero]
                                rotate_right
                                focus
                                  try contradiction
                                  all_goals
                                    simp only [Act.put, List.setIfInBounds_toArray, List.set_cons_succ, List.set_cons_zero]
                                    iterate 5
                                      refine Rob.no rfl rfl ?_
                                      simp only [Act.put, List.setIfInBounds_toArray, List.set_cons_succ, List.set_cons_zero]
                                    iterate 2
                                      refine Rob.yg (v := ?_) rfl rfl (fun w1 hx hH => ?_) ?_; rotate_left
                                      · go_simp; first | done | rfl | exact (Bool.not_not _).symm
                                      simp only [Act.put, List.setIfInBounds_toArray, List.set_cons_succ, List.set_cons_zero]
                                    refine Rob.y (v := ?_) rfl rfl (fun w1 hx hH => ?_) ?_; rotate_left
                                    · go_simp; first | done | rfl | exact (Bool.not_not _).symm
                                    simp only [Act.put, List.setIfInBounds_toArray, List.set_cons_succ, List.set_cons_zero]
                        rotate_right
                        focus
                          try contradiction
                          all_goals
                            simp only [Act.put, List.setIfInBounds_toArray, List.set_cons_succ, List.set_cons_zero]
                            iterate 3
                              refine Rob.no rfl rfl ?_
                              simp only [Act.put, List.setIfInBounds_toArray, List.set_cons_succ, List.set_cons_zero]
                            refine Rob.yg (v := ?_) rfl rfl (fun w1 hx hH => ?_) ?_; rotate_left
                            · go_simp; first | done | rfl | exact (Bool.not_not _).symm
                            simp only [Act.put, List.setIfInBounds_toArray, List.set_cons_succ, List.set_cons_zero]
                            refine Rob.yB (b := ?_) rfl rfl (fun w1 hx hH => ?_) (fun hb22 => ?_) (fun hb22 => ?_); rotate_left
                            · go_simp; first | done | rfl | exact (Bool.not_not _).symm
                            focus
                              try contradiction
                              all_goals
                                simp only [Act.put, List.setIfInBounds_toArray, List.set_cons_succ, List.set_cons_zero]
                                iterate 10
                                  refine Rob.no rfl rfl ?_
                                  simp only [Act.put, List.setIfInBounds_toArray, List.set_cons_succ, List.set_cons_zero]
                                refine Rob.yg (v := ?_) rfl rfl (fun w1 hx hH => ?_) ?_; rotate_left
                                · go_simp; first | done | rfl | exact (Bool.not_not _).symm
                                simp only [Act.put, List.setIfInBounds_toArray, List.set_cons_succ, List.set_cons_zero]
                                refine Rob.y (v := ?_) rfl rfl (fun w1 hx hH => ?_) ?_; rotate_left
                                · go_simp; first | done | rfl | exact (Bool.not_not _).symm
                                simp only [Act.put, List.setIfInBounds_toArray, List.set_cons_succ, List.set_cons_zero]
                            rotate_right
                            focus
                              try contradiction
                              all_goals
                                simp only [Act.put, List.setIfInBounds_toArray, List.set_cons_succ, List.set_cons_zero]
                                refine Rob.yg (v := ?_) rfl rfl (fun w1 hx hH => ?_) ?_; rotate_left
                                · (obtain ⟨hcx, hfx⟩ := bcell (ext_trans hx2 hx)); go_simp; first | done | rfl
                                simp only [Act.put, List.setIfInBounds_toArray, List.set_cons_succ, List.set_cons_zero]
                                refine Rob.cv (.int .i64 (most f[i].pages)) rfl rfl rfl (fun _ _ => ext_trans) (fun w1 hx hH => ?_) (fun lo24 hi24 hlo24 hhi24 => ?_)
                                · unfold RunTo; go_simp; exact (l3Most_c _ f[i].pages f[i].worn _ (hpp.ext (ext_trans X2 hx)) hpl).mono fun e w' h => h.to
                                simp only [Act.put, List.setIfInBounds_toArray, List.set_cons_succ, List.set_cons_zero]
                                refine Rob.yg (v := ?_) rfl rfl (fun w1 hx hH => ?_) ?_; rotate_left
                                · go_simp; first | done | rfl | exact (Bool.not_not _).symm
                                simp only [Act.put, List.setIfInBounds_toArray, List.set_cons_succ, List.set_cons_zero]
                                refine Rob.yB (b := ?_) rfl rfl (fun w1 hx hH => ?_) (fun hb26 => ?_) (fun hb26 => ?_); rotate_left
                                · go_simp; first | done | rfl | exact (Bool.not_not _).symm
                                focus
                                  try contradiction
                                  all_goals
                                    simp only [Act.put, List.setIfInBounds_toArray, List.set_cons_succ, List.set_cons_zero]
                                    iterate 2
                                      refine Rob.yg (v := ?_) rfl rfl (fun w1 hx hH => ?_) ?_; rotate_left
                                      · (obtain ⟨hcx, hfx⟩ := bcell (ext_trans hx2 hx)); go_simp; first | done | rfl
                                      simp only [Act.put, List.setIfInBounds_toArray, List.set_cons_succ, List.set_cons_zero]
                                    refine Rob.cv (.int .i64 (most f[k].pages)) rfl rfl rfl (fun _ _ => ext_trans) (fun w1 hx hH => ?_) (fun lo28 hi28 hlo28 hhi28 => ?_)
                                    · unfold RunTo; go_simp; exact (l3Most_c _ f[k].pages f[k].worn _ (hpp2.ext (ext_trans X2 hx)) hpl2).mono fun e w' h => h.to
                                    simp only [Act.put, List.setIfInBounds_toArray, List.set_cons_succ, List.set_cons_zero]
                                    refine Rob.cv (.int .i64 (most f[i].pages)) rfl rfl rfl (fun _ _ => ext_trans) (fun w1 hx hH => ?_) (fun lo30 hi30 hlo30 hhi30 => ?_)
                                    · unfold RunTo; go_simp; exact (l3Most_c _ f[i].pages f[i].worn _ (hpp.ext (ext_trans X2 hx)) hpl).mono fun e w' h => h.to
                                    simp only [Act.put, List.setIfInBounds_toArray, List.set_cons_succ, List.set_cons_zero]
                                    iterate 3
                                      refine Rob.yg (v := ?_) rfl rfl (fun w1 hx hH => ?_) ?_; rotate_left
                                      · go_simp; first | done | rfl | exact (Bool.not_not _).symm
                                      simp only [Act.put, List.setIfInBounds_toArray, List.set_cons_succ, List.set_cons_zero]
                                    refine Rob.y (v := ?_) rfl rfl (fun w1 hx hH => ?_) ?_; rotate_left
                                    · go_simp; first | done | rfl | exact (Bool.not_not _).symm
                                    simp only [Act.put, List.setIfInBounds_toArray, List.set_cons_succ, List.set_cons_zero]
                                rotate_right
                                focus
                                  try contradiction
                                  all_goals
                                    simp only [Act.put, List.setIfInBounds_toArray, List.set_cons_succ, List.set_cons_zero]
                                    iterate 5
                                      refine Rob.no rfl rfl ?_
                                      simp only [Act.put, List.setIfInBounds_toArray, List.set_cons_succ, List.set_cons_zero]
                                    iterate 2
                                      refine Rob.yg (v := ?_) rfl rfl (fun w1 hx hH => ?_) ?_; rotate_left
                                      · go_simp; first | done | rfl | exact (Bool.not_not _).symm
                                      simp only [Act.put, List.setIfInBounds_toArray, List.set_cons_succ, List.set_cons_zero]
                                    refine Rob.y (v := ?_) rfl rfl (fun w1 hx hH => ?_) ?_; rotate_left
                                    · go_simp; first | done | rfl | exact (Bool.not_not _).symm
                                    simp only [Act.put, List.setIfInBounds_toArray, List.set_cons_succ, List.set_cons_zero]
                    rotate_right
                    focus
                      try contradiction
                      all_goals
                        simp only [Act.put, List.setIfInBounds_toArray, List.set_cons_succ, List.set_cons_zero]
                        iterate 20
                          refine Rob.no rfl rfl ?_
                          simp only [Act.put, List.setIfInBounds_toArray, List.set_cons_succ, List.set_cons_zero]
                        refine Rob.y (v := ?_) rfl rfl (fun w1 hx hH => ?_) ?_; rotate_left
                        · go_simp; first | done | rfl | exact (Bool.not_not _).symm
                        simp only [Act.put, List.setIfInBounds_toArray, List.set_cons_succ, List.set_cons_zero]
                all_goals
                  refine fin_nil (fun w3 hx3 _ => ?_)
                  have X3 := ext_trans X2 hx3
                  go_wp2_with fail
                all_goals try
                  go_ret
                  have hr := HR.out
                  rw [if_pos (by simp [badPair, hik, *])] at hr
                  exact ⟨by rw [← hr]; rfl, X3⟩
              all_goals
                have hr := HR.out
                rw [if_neg (by simp [badPair, hik, *])] at hr
                exact ⟨⟨k + 1, by omega, by go_num, X3, Lib.hid hr⟩, by simp [intOf]; omega⟩
          · obtain rfl : k = f.length := by omega
            rw [List.drop_length, orderIn, Bool.true_and] at HR
            go_wp2
            exact ⟨⟨i + 1, by omega, by go_num, hX, HR⟩, by simp [intOf]; omega⟩
      · obtain rfl : i = f.length := by omega
        rw [List.drop_length, orderOut] at HR
        have hr := HR.out
        subst hr
        go_wp2
        go_ret
        exact ⟨rfl, hX⟩
end Go.Bu

set_option linter.unusedVariables false
set_option linter.unusedSimpArgs false
namespace Go.Bu
open Go Go.RowKit Go.Plan Go.Proofs

/-- a store's value, as it is handed on -/
def StoreV (w : World) (fv dv : Value) (s : Store) : Prop := Flash (Old w) w fv s.flash ∧ Ints (Old w) w dv s.disk
theorem StoreV.ext {w w' : World} {fv dv : Value} {s : Store} (h : StoreV w fv dv s) (hx : Ext w w') : StoreV w' fv dv s := ⟨h.1.ext hx, h.2.ext hx⟩

def badDisk (r : Rec) (d : Int) : Bool := !inB d 0 9 || (decide (0 < r.seq) && r.kind == 2 && r.val != d)
def diskScan (f : List Block) : Nat → List Int → Bool
  | _, [] => true
  | i, d :: ds => if badDisk (last f ((i : Int) + 1)) d then false else diskScan f (i + 1) ds
def storeOkB (s : Store) : Bool := orderB s.flash && s.disk.length == 6 && diskScan s.flash 0 s.disk
theorem diskScan_drop (f : List Block) (ds : List Int) (k : Nat) (h : k < ds.length) : diskScan f k (ds.drop k) = if badDisk (last f ((k : Int) + 1)) ds[k] then false else diskScan f (k + 1) (ds.drop (k + 1)) := by
  rw [List.drop_eq_getElem_cons h]; rfl

theorem orderB_ok {f : List Block} (h : orderB f = true) : flashOkB f = true := by simp only [orderB, Bool.and_eq_true] at h; exact h.1
theorem pages_short {f : List Block} (h : flashOkB f = true) : ∀ b ∈ f, b.pages.length ≤ 1048576 := fun b hb => by have := (flashOk_block h hb).1; omega
theorem storeOk_order {s : Store} (h : storeOkB s = true) : orderB s.flash = true := by simp only [storeOkB, Bool.and_eq_true] at h; exact h.1.1
theorem storeOk_flash {s : Store} (h : storeOkB s = true) : flashOkB s.flash = true := orderB_ok (storeOk_order h)
theorem storeOk_disk {s : Store} (h : storeOkB s = true) : s.disk.length = 6 := by simp only [storeOkB, Bool.and_eq_true, beq_iff_eq] at h; exact h.1.2

def readN (s : Store) (n : Nat) : Int := if 0 < (last s.flash ((n : Int) + 1)).seq then (last s.flash ((n : Int) + 1)).val else s.disk.getD n 0
def dirtyB (s : Store) (addr : Int) : Bool := decide (0 < (last s.flash addr).seq) && (last s.flash addr).kind == 1

set_option maxHeartbeats 1000000 in
theorem l11Dirty_c (fv dv : Value) (s : Store) (addr : Int) (w : World) (h : StoreV w fv dv s) (hn : s.flash.length ≤ 1048576) (hp : ∀ b ∈ s.flash, b.pages.length ≤ 1048576) :
    Calls Tryz.prog 130 #[.agg #[fv, dv], .int .i64 addr] w (Ret w (.bool (dirtyB s addr))) := by
  have HP := Lib.hid hp; clear hp
  have HD : Hid (dirtyB s addr = (decide (0 < (last s.flash addr).seq) && (last s.flash addr).kind == 1)) := Lib.hid rfl
  obtain ⟨hF, hD⟩ := h
  obtain ⟨fa, fc, rfl⟩ := hF.form
  obtain ⟨da, dc, rfl⟩ := hD.form
  go_enter Tryz.func130, Tryz.ntmps130
  go_wp2_with fail
  refine (l3Last_c _ s.flash addr _ (hF.ext (ext_alloc (ext_refl _) _)) hn HP.out).mono ?_; rintro e1 w1 ⟨rfl, hx⟩
  obtain ⟨hc, hf, hz, hX⟩ := after1 hx
  generalize last s.flash addr = r at *
  go_wp2_with fail
  all_goals
    go_ret
    try simp only [beq_iff_eq, Bool.not_eq_true, beq_eq_false_iff_ne, ne_eq, bne_iff_ne, bne_eq_false_iff_eq, decide_eq_true_eq, decide_eq_false_iff_not] at *
    exact ⟨by rw [HD.out]; first | (simp [*]; done) | (simp [*]; omega), by go_grown⟩

set_option maxHeartbeats 1000000 in
theorem l11Read_c (fv dv : Value) (s : Store) (n : Nat) (w : World) (h : StoreV w fv dv s) (hn : s.flash.length ≤ 1048576) (hp : ∀ b ∈ s.flash, b.pages.length ≤ 1048576) (hd : n < s.disk.length) (hd2 : s.disk.length ≤ 1048576) :
    Calls Tryz.prog 63 #[.agg #[fv, dv], .int .i64 ((n : Int) + 1)] w (Ret w (.int .i64 (readN s n))) := by
  have HP := Lib.hid hp; clear hp
  have HD : Hid (readN s n = if 0 < (last s.flash ((n : Int) + 1)).seq then (last s.flash ((n : Int) + 1)).val else s.disk[n]) := Lib.hid (by simp [readN, hd])
  obtain ⟨hF, hD⟩ := h
  obtain ⟨fa, fc, rfl⟩ := hF.form
  obtain ⟨da, dc, rfl⟩ := hD.form
  obtain ⟨b, o, rfl, hb, e0⟩ := hD.at1 hd
  have hb' : b < w.heap.size := hb
  go_enter Tryz.func63, Tryz.ntmps63
  go_wp2_with fail
  refine (l3Last_c _ s.flash ((n : Int) + 1) _ (hF.ext (ext_alloc (ext_refl _) _)) hn HP.out).mono ?_; rintro e1 w1 ⟨rfl, hx⟩
  obtain ⟨hc, hf, hz, hX⟩ := after1 hx
  have hbw : b < w1.heap.size := Nat.lt_trans hb' hz
  generalize last s.flash ((n : Int) + 1) = r at *
  go_wp2_with fail
  all_goals
    go_ret
    try simp only [beq_iff_eq, Bool.not_eq_true, beq_eq_false_iff_ne, ne_eq, bne_iff_ne, bne_eq_false_iff_eq, decide_eq_true_eq, decide_eq_false_iff_not] at *
    exact ⟨by rw [HD.out]; first | rw [if_pos (by omega)]; rfl | rw [if_neg (by omega)]; rfl, by go_grown⟩

set_option maxHeartbeats 2000000 in
theorem specStoreOk_c (fv dv : Value) (s : Store) (w : World) (h : StoreV w fv dv s) (hn : s.flash.length ≤ 1048576) :
    Calls Tryz.prog 42 #[.agg #[fv, dv]] w (Ret w (.bool (storeOkB s))) := by
  obtain ⟨hF, hD⟩ := h
  obtain ⟨fa, fc, rfl⟩ := hF.form
  obtain ⟨da, dc, rfl⟩ := hD.form
  have HQ : Hid (storeOkB s = (orderB s.flash && s.disk.length == 6 && diskScan s.flash 0 s.disk)) := Lib.hid rfl
  by_cases hok : orderB s.flash = true ∧ s.disk.length = 6
  · obtain ⟨hok, hlen⟩ := hok
    have HP := Lib.hid (pages_short (orderB_ok hok))
    have HL := Lib.hid hlen
    have hne : (((s.disk.length : Nat) : Int) != 6) = false := by simp [hlen]
    have HQ2 : Hid (diskScan s.flash 0 (s.disk.drop 0) = storeOkB s) := Lib.hid (by rw [HQ.out, hok, hlen]; rfl)
    clear hlen HQ
    generalize storeOkB s = A at *
    go_enter Tryz.func42, Tryz.ntmps42
    go_wp2_with fail
    refine (specFindOrder_c _ s.flash _ (hF.ext (ext_alloc (ext_refl _) _)) hn).mono ?_; rintro e1 w1 ⟨rfl, hx⟩
    rw [hok]
    have G := keep_ext hx (hg_new (w := w) rfl)
    obtain ⟨hc, hf, hz, hX⟩ := after1 hx
    go_wp2_with fail
    clear hc hf hz hne
    go_loopw [3] (fun y wr => ∃ (i : Nat), i ≤ 6 ∧ y = .int .i64 i ∧ Ext w wr ∧ Hid (diskScan s.flash i (s.disk.drop i) = A) ∧ wr.heap[w.heap.size]? = some (.cells #[.slice fa s.flash.length fc, .slice da s.disk.length dc] 31 (0, 0))) (fun y _ => 6 - (intOf y).toNat)
    case atStart => exact ⟨0, by omega, rfl, hX, HQ2, G⟩
    case round =>
      clear hX HQ2 G
      obtain ⟨i, hi, rfl, hX, HR, G⟩ := hrel
      obtain ⟨g0, gf⟩ := cellsK G
      by_cases hlt : i < 6
      · have hil : i < s.disk.length := by have := HL.out; omega
        obtain ⟨b, o, rfl, hb, e0⟩ := hD.at1 hil
        have hb' : b < w.heap.size := hb
        have hbw : b < wr.heap.size := Nat.lt_of_lt_of_le hb' hX.size
        have hbs := heap_lt G
        rw [diskScan_drop _ _ _ hil] at HR
        go_wp2_with fail
        refine (l3Last_c _ s.flash ((i : Int) + 1) _ (hF.ext hX) hn HP.out).mono ?_; rintro e2 w2 ⟨rfl, hx2⟩
        generalize last s.flash ((i : Int) + 1) = r at *
        have X2 := ext_trans hX hx2
        have G2 := keep_ext hx2 G
        obtain ⟨g2, gf2⟩ := cellsK G2
        obtain ⟨hc2, hf2⟩ := bcell X2
        have hbw2 : b < w2.heap.size := Nat.lt_of_lt_of_le hb' X2.size
        have hbs2 := heap_lt G2
        clear g0 gf G hbw hbs hX
        go_wp2_with fail
        refine wp_region_ext [5] [0, 1, 2, 3, 4, 5, 6, 7, 8, 9, 10, 11, 12, 13, 14, 15, 16, 17, 18, 19, 20, 21, 22, 23, 24] [] [] (by kernel_rfl) (by kernel_rfl) ?late ?_
        case late => exact fun f hf => absurd hf List.not_mem_nil
        refine Rob.y (v := ?_) rfl rfl (fun w1 hx hH => ?_) ?_; rotate_left
        · go_simp; first | done | rfl | exact (Bool.not_not _).symm
        simp only [Act.put, List.setIfInBounds_toArray, List.set_cons_succ, List.set_cons_zero]
        refine Rob.y (v := ?_) rfl rfl (fun w1 hx hH => ?_) ?_; rotate_left
        · (obtain ⟨hcx, hfx⟩ := bcell hx); go_simp; first | done | rfl
        simp only [Act.put, List.setIfInBounds_toArray, List.set_cons_succ, List.set_cons_zero]
        refine Rob.y (v := ?_) rfl rfl (fun w1 hx hH => ?_) ?_; rotate_left
        · go_simp; first | done | rfl | exact (Bool.not_not _).symm
        simp only [Act.put, List.setIfInBounds_toArray, List.set_cons_succ, List.set_cons_zero]
        iterate 2
          refine Rob.y (v := ?_) rfl rfl (fun w1 hx hH => ?_) ?_; rotate_left
          · (obtain ⟨hcx, hfx⟩ := bcell hx); go_simp; first | done | rfl
          simp only [Act.put, List.setIfInBounds_toArray, List.set_cons_succ, List.set_cons_zero]
        refine Rob.cv (.bool (inB s.disk[i] 0 9)) rfl rfl rfl (fun _ _ => ext_trans) (fun w1 hx hH => ?_) (fun lo5 hi5 hlo5 hhi5 => ?_)
        · unfold RunTo; go_simp; exact (((l6In_c _ _ _ _).mono fun _ _ => RetSame.ret)).mono fun e w' h => h.to
        simp only [Act.put, List.setIfInBounds_toArray, List.set_cons_succ, List.set_cons_zero]
        refine Rob.y (v := ?_) rfl rfl (fun w1 hx hH => ?_) ?_; rotate_left
        · go_simp; first | done | rfl | exact (Bool.not_not _).symm
        simp only [Act.put, List.setIfInBounds_toArray, List.set_cons_succ, List.set_cons_zero]
        refine Rob.yB (b := ?_) rfl rfl (fun w1 hx hH => ?_) (fun hb7 => ?_) (fun hb7 => ?_); rotate_left
        · go_simp; first | done | rfl | exact (Bool.not_not _).symm
        focus
          try contradiction
          all_goals
            simp only [Act.put, List.setIfInBounds_toArray, List.set_cons_succ, List.set_cons_zero]
            iterate 16
              refine Rob.no rfl rfl ?_
              simp only [Act.put, List.setIfInBounds_toArray, List.set_cons_succ, List.set_cons_zero]
            refine Rob.y (v := ?_) rfl rfl (fun w1 hx hH => ?_) ?_; rotate_left
            · go_simp; first | done | rfl | exact (Bool.not_not _).symm
            simp only [Act.put, List.setIfInBounds_toArray, List.set_cons_succ, List.set_cons_zero]
        rotate_right
        focus
          try contradiction
          all_goals
            simp only [Act.put, List.setIfInBounds_toArray, List.set_cons_succ, List.set_cons_zero]
            refine Rob.yg (v := ?_) rfl rfl (fun w1 hx hH => ?_) ?_; rotate_left
            · go_simp; first | done | rfl | exact (Bool.not_not _).symm
            simp only [Act.put, List.setIfInBounds_toArray, List.set_cons_succ, List.set_cons_zero]
            refine Rob.yB (b := ?_) rfl rfl (fun w1 hx hH => ?_) (fun hb9 => ?_) (fun hb9 => ?_); rotate_left
            · go_simp; first | done | rfl | exact (Bool.not_not _).symm
            focus
              try contradiction
              all_goals
                simp only [Act.put, List.setIfInBounds_toArray, List.set_cons_succ, List.set_cons_zero]
                refine Rob.yg (v := ?_) rfl rfl (fun w1 hx hH => ?_) ?_; rotate_left
                · go_simp; first | done | rfl | exact (Bool.not_not _).symm
                simp only [Act.put, List.setIfInBounds_toArray, List.set_cons_succ, List.set_cons_zero]
                refine Rob.yg (v := ?_) rfl rfl (fun w1 hx hH => ?_) ?_; rotate_left
                · (obtain ⟨hcx, hfx⟩ := bcell hx); go_simp; first | done | rfl
                simp only [Act.put, List.setIfInBounds_toArray, List.set_cons_succ, List.set_cons_zero]
                iterate 2
                  refine Rob.yg (v := ?_) rfl rfl (fun w1 hx hH => ?_) ?_; rotate_left
                  · go_simp; first | done | rfl | exact (Bool.not_not _).symm
                  simp only [Act.put, List.setIfInBounds_toArray, List.set_cons_succ, List.set_cons_zero]
                refine Rob.yB (b := ?_) rfl rfl (fun w1 hx hH => ?_) (fun hb14 => ?_) (fun hb14 => ?_); rotate_left
                · go_simp; first | done | rfl | exact (Bool.not_not _).symm
                focus
                  try contradiction
                  all_goals
                    simp only [Act.put, List.setIfInBounds_toArray, List.set_cons_succ, List.set_cons_zero]
                    refine Rob.yg (v := ?_) rfl rfl (fun w1 hx hH => ?_) ?_; rotate_left
                    · go_simp; first | done | rfl | exact (Bool.not_not _).symm
                    simp only [Act.put, List.setIfInBounds_toArray, List.set_cons_succ, List.set_cons_zero]
                    refine Rob.yg (v := ?_) rfl rfl (fun w1 hx hH => ?_) ?_; rotate_left
                    · (obtain ⟨hcx, hfx⟩ := bcell hx); go_simp; first | done | rfl
                    simp only [Act.put, List.setIfInBounds_toArray, List.set_cons_succ, List.set_cons_zero]
                    refine Rob.yg (v := ?_) rfl rfl (fun w1 hx hH => ?_) ?_; rotate_left
                    · go_simp; first | done | rfl | exact (Bool.not_not _).symm
                    simp only [Act.put, List.setIfInBounds_toArray, List.set_cons_succ, List.set_cons_zero]
                    refine Rob.yg (v := ?_) rfl rfl (fun w1 hx hH => ?_) ?_; rotate_left
                    · (obtain ⟨hcx, hfx⟩ := bcell hx); go_simp; first | done | rfl
                    simp only [Act.put, List.setIfInBounds_toArray, List.set_cons_succ, List.set_cons_zero]
                    refine Rob.yg (v := ?_) rfl rfl (fun w1 hx hH => ?_) ?_; rotate_left
                    · go_simp; first | done | rfl | exact (Bool.not_not _).symm
                    simp only [Act.put, List.setIfInBounds_toArray, List.set_cons_succ, List.set_cons_zero]
                    iterate 2
                      refine Rob.yg (v := ?_) rfl rfl (fun w1 hx hH => ?_) ?_; rotate_left
                      · (obtain ⟨hcx, hfx⟩ := bcell hx); go_simp; first | done | rfl
                      simp only [Act.put, List.setIfInBounds_toArray, List.set_cons_succ, List.set_cons_zero]
                    iterate 2
                      refine Rob.yg (v := ?_) rfl rfl (fun w1 hx hH => ?_) ?_; rotate_left
                      · go_simp; first | done | rfl | exact (Bool.not_not _).symm
                      simp only [Act.put, List.setIfInBounds_toArray, List.set_cons_succ, List.set_cons_zero]
                    refine Rob.y (v := ?_) rfl rfl (fun w1 hx hH => ?_) ?_; rotate_left
                    · go_simp; first | done | rfl | exact (Bool.not_not _).symm
                    simp only [Act.put, List.setIfInBounds_toArray, List.set_cons_succ, List.set_cons_zero]
                rotate_right
                focus
                  try contradiction
                  all_goals
                    simp only [Act.put, List.setIfInBounds_toArray, List.set_cons_succ, List.set_cons_zero]
                    iterate 8
                      refine Rob.no rfl rfl ?_
                      simp only [Act.put, List.setIfInBounds_toArray, List.set_cons_succ, List.set_cons_zero]
                    refine Rob.yg (v := ?_) rfl rfl (fun w1 hx hH => ?_) ?_; rotate_left
                    · go_simp; first | done | rfl | exact (Bool.not_not _).symm
                    simp only [Act.put, List.setIfInBounds_toArray, List.set_cons_succ, List.set_cons_zero]
                    refine Rob.y (v := ?_) rfl rfl (fun w1 hx hH => ?_) ?_; rotate_left
                    · go_simp; first | done | rfl | exact (Bool.not_not _).symm
                    simp only [Act.put, List.setIfInBounds_toArray, List.set_cons_succ, List.set_cons_zero]
            rotate_right
            focus
              try contradiction
              all_goals
                simp only [Act.put, List.setIfInBounds_toArray, List.set_cons_succ, List.set_cons_zero]
                iterate 3
                  refine Rob.no rfl rfl ?_
                  simp only [Act.put, List.setIfInBounds_toArray, List.set_cons_succ, List.set_cons_zero]
                refine Rob.yg (v := ?_) rfl rfl (fun w1 hx hH => ?_) ?_; rotate_left
                · go_simp; first | done | rfl | exact (Bool.not_not _).symm
                simp only [Act.put, List.setIfInBounds_toArray, List.set_cons_succ, List.set_cons_zero]
                refine Rob.yB (b := ?_) rfl rfl (fun w1 hx hH => ?_) (fun hb14 => ?_) (fun hb14 => ?_); rotate_left
                · go_simp; first | done | rfl | exact (Bool.not_not _).symm
                focus
                  try contradiction
                  all_goals
                    simp only [Act.put, List.setIfInBounds_toArray, List.set_cons_succ, List.set_cons_zero]
                    refine Rob.yg (v := ?_) rfl rfl (fun w1 hx hH => ?_) ?_; rotate_left
                    · go_simp; first | done | rfl | exact (Bool.not_not _).symm
                    simp only [Act.put, List.setIfInBounds_toArray, List.set_cons_succ, List.set_cons_zero]
                    refine Rob.yg (v := ?_) rfl rfl (fun w1 hx hH => ?_) ?_; rotate_left
                    · (obtain ⟨hcx, hfx⟩ := bcell hx); go_simp; first | done | rfl
                    simp only [Act.put, List.setIfInBounds_toArray, List.set_cons_succ, List.set_cons_zero]
                    refine Rob.yg (v := ?_) rfl rfl (fun w1 hx hH => ?_) ?_; rotate_left
                    · go_simp; first | done | rfl | exact (Bool.not_not _).symm
                    simp only [Act.put, List.setIfInBounds_toArray, List.set_cons_succ, List.set_cons_zero]
                    refine Rob.yg (v := ?_) rfl rfl (fun w1 hx hH => ?_) ?_; rotate_left
                    · (obtain ⟨hcx, hfx⟩ := bcell hx); go_simp; first | done | rfl
                    simp only [Act.put, List.setIfInBounds_toArray, List.set_cons_succ, List.set_cons_zero]
                    refine Rob.yg (v := ?_) rfl rfl (fun w1 hx hH => ?_) ?_; rotate_left
                    · go_simp; first | done | rfl | exact (Bool.not_not _).symm
                    simp only [Act.put, List.setIfInBounds_toArray, List.set_cons_succ, List.set_cons_zero]
                    iterate 2
                      refine Rob.yg (v := ?_) rfl rfl (fun w1 hx hH => ?_) ?_; rotate_left
                      · (obtain ⟨hcx, hfx⟩ := bcell hx); go_simp; first | done | rfl
                      simp only [Act.put, List.setIfInBounds_toArray, List.set_cons_succ, List.set_cons_zero]
                    iterate 2
                      refine Rob.yg (v := ?_) rfl rfl (fun w1 hx hH => ?_) ?_; rotate_left
                      · go_simp; first | done | rfl | exact (Bool.not_not _).symm
                      simp only [Act.put, List.setIfInBounds_toArray, List.set_cons_succ, List.set_cons_zero]
                    refine Rob.y (v := ?_) rfl rfl (fun w1 hx hH => ?_) ?_; rotate_left
                    · go_simp; first | done | rfl | exact (Bool.not_not _).symm
                    simp only [Act.put, List.setIfInBounds_toArray, List.set_cons_succ, List.set_cons_zero]
                rotate_right
                focus
                  try contradiction
                  all_goals
                    simp only [Act.put, List.setIfInBounds_toArray, List.set_cons_succ, List.set_cons_zero]
                    iterate 8
                      refine Rob.no rfl rfl ?_
                      simp only [Act.put, List.setIfInBounds_toArray, List.set_cons_succ, List.set_cons_zero]
                    refine Rob.yg (v := ?_) rfl rfl (fun w1 hx hH => ?_) ?_; rotate_left
                    · go_simp; first | done | rfl | exact (Bool.not_not _).symm
                    simp only [Act.put, List.setIfInBounds_toArray, List.set_cons_succ, List.set_cons_zero]
                    refine Rob.y (v := ?_) rfl rfl (fun w1 hx hH => ?_) ?_; rotate_left
                    · go_simp; first | done | rfl | exact (Bool.not_not _).symm
                    simp only [Act.put, List.setIfInBounds_toArray, List.set_cons_succ, List.set_cons_zero]
        all_goals
          refine fin_nil (fun w3 hx3 _ => ?_)
          have X3 := ext_trans (ext_alloc X2 _) hx3
          have G3 := keep_ext hx3 (hg_alloc G2)
          go_wp2_with fail
        all_goals try
          go_ret
          have hr := HR.out
          rw [if_pos (by simp [badDisk, *])] at hr
          exact ⟨by rw [← hr]; rfl, X3⟩
        all_goals
          have hr := HR.out
          rw [if_neg (by simp [badDisk, *])] at hr
          exact ⟨⟨i + 1, by omega, by go_num, X3, Lib.hid hr, G3⟩, by simp [intOf]; omega⟩
      · obtain rfl : i = 6 := by omega
        rw [List.drop_eq_nil_of_le (by have := HL.out; omega), diskScan] at HR
        have hr := HR.out
        subst hr
        go_wp2
        go_ret
        exact ⟨rfl, hX⟩
  · have hf : storeOkB s = false := by
      rw [HQ.out]; simp only [Bool.and_eq_false_iff, beq_eq_false_iff_ne]
      by_cases h1 : orderB s.flash = true
      · exact .inl (.inr fun h2 => hok ⟨h1, h2⟩)
      · exact .inl (.inl (by simpa using h1))
    have HF := Lib.hid hf; clear hf HQ
    cases ho : orderB s.flash with
    | false =>
      have HO := Lib.hid ho; clear ho hok
      go_enter Tryz.func42, Tryz.ntmps42
      go_wp2_with fail
      refine (specFindOrder_c _ s.flash _ (hF.ext (ext_alloc (ext_refl _) _)) hn).mono ?_; rintro e1 w1 ⟨rfl, hx⟩
      obtain ⟨hc, hf, hz, hX⟩ := after1 hx
      rw [HO.out]
      go_wp2_with fail
      go_ret
      exact ⟨by rw [HF.out]; rfl, hX⟩
    | true =>
      have hl : ¬ s.disk.length = 6 := fun h => hok ⟨ho, h⟩
      have hne : (((s.disk.length : Nat) : Int) != 6) = true := by simp; omega
      have HO := Lib.hid ho; clear ho hok hl
      go_enter Tryz.func42, Tryz.ntmps42
      go_wp2_with fail
      refine (specFindOrder_c _ s.flash _ (hF.ext (ext_alloc (ext_refl _) _)) hn).mono ?_; rintro e1 w1 ⟨rfl, hx⟩
      obtain ⟨hc, hf, hz, hX⟩ := after1 hx
      rw [HO.out]
      go_wp2_with fail
      go_ret
      exact ⟨by rw [HF.out]; rfl, hX⟩
end Go.Bu
