/- The last record of an address, as the reference finds it. -/
import Derived.Test.YtcainddboblpbaaKit
import Derived.Test.YtcainddboblpbaaOk
set_option linter.unusedVariables false
set_option linter.unusedSimpArgs false
namespace Go.Bu
open Go Go.RowKit Go.Plan Go.Proofs

def lastStep (addr : Int) (r : Rec) (p : Page) : Rec := if p.state = 1 ∧ p.r.addr = addr ∧ r.seq < p.r.seq then p.r else r
def lastP (addr : Int) (r : Rec) (ps : List Page) : Rec := ps.foldl (lastStep addr) r
def rec0 : Rec := ⟨0, 0, 0, 0⟩
def last (f : List Block) (addr : Int) : Rec := f.foldl (fun r b => lastP addr r b.pages) rec0

set_option maxHeartbeats 1000000 in
theorem l3Last_c (v : Value) (f : List Block) (addr : Int) (w : World) (h : Flash (Old w) w v f) (hn : f.length ≤ 1048576) (hp : ∀ b ∈ f, b.pages.length ≤ 1048576) :
    Calls Try.prog 74 #[v, .int .i64 addr] w (Ret w (.tuple #[recA (last f addr), .bool (decide (0 < (last f addr).seq))])) := by
  obtain ⟨a, cap, rfl⟩ := h.form
  obtain ⟨A, hA⟩ : ∃ A, last f addr = A := ⟨_, rfl⟩
  rw [hA]
  unfold last at hA
  have HP := Lib.hid hp; clear hp
  have HA := Lib.hid hA; clear hA
  go_enter Try.func74, Try.ntmps74
  go_wp2
  go_loopw [7] (fun y wr => ∃ (i : Nat) (r : Rec), i ≤ f.length ∧ y = .int .i64 i ∧ Ext w wr ∧ Hid ((f.drop i).foldl (fun r b => lastP addr r b.pages) r = A) ∧
    wr.heap[w.heap.size]? = some (.cells #[.int .i64 0, .int .i64 0, .int .i64 0, .int .i64 0] 72 (0, 0)) ∧ wr.heap[w.heap.size + 1]? = some (.cells #[.int .i64 r.kind, .int .i64 r.seq, .int .i64 r.addr, .int .i64 r.val] 72 (0, 0))) (fun y _ => f.length - (intOf y).toNat)
  case atStart =>
    refine ⟨0, rec0, by omega, rfl, by go_grown, Lib.hid (by simpa using HA.out), ?_, ?_⟩
    · refine hg_alloc (hg_new rfl)
    · refine hg_new (by simp)
  case round =>
    obtain ⟨i, r, hi, rfl, hX, HR, g0, g1⟩ := hrel
    have L1 := heap_lt g1
    by_cases hlt : i < f.length
    · obtain ⟨b, o, pv, rfl, hb, hpp, h0, h1⟩ := h.at2 hlt
      obtain ⟨pa, pcap, rfl⟩ := hpp.form
      obtain ⟨hc, hf⟩ := bcell hX
      have hb' : b < w.heap.size := hb
      have hpl := HP.out f[i] (List.getElem_mem _)
      rw [foldl_drop _ _ _ _ hlt] at HR
      go_wp2
      go_loopw [8] (fun y wr => ∃ (k : Nat) (r : Rec), k ≤ f[i].pages.length ∧ y = .int .i64 k ∧ Ext w wr ∧ Hid ((f.drop (i + 1)).foldl (fun r b => lastP addr r b.pages) ((f[i].pages.drop k).foldl (lastStep addr) r) = A) ∧
        wr.heap[w.heap.size]? = some (.cells #[.int .i64 0, .int .i64 0, .int .i64 0, .int .i64 0] 72 (0, 0)) ∧ wr.heap[w.heap.size + 1]? = some (.cells #[.int .i64 r.kind, .int .i64 r.seq, .int .i64 r.addr, .int .i64 r.val] 72 (0, 0))) (fun y _ => f[i].pages.length - (intOf y).toNat)
      case atStart => exact ⟨0, r, by omega, rfl, hX, HR, g0, g1⟩
      case round =>
        clear hc hf g0 g1 hX HR L1
        obtain ⟨k, r2, hk, rfl, hX, HR, g0, g1⟩ := hrel
        have L1 := heap_lt g1
        obtain ⟨hc, hf⟩ := bcell hX
        obtain ⟨c1, f1⟩ := cellsK g1
        by_cases hlk : k < f[i].pages.length
        · obtain ⟨b2, o2, rfl, hb2, e0, e1, e2, e3, e4⟩ := hpp.at5 hlk
          have hb2' : b2 < w.heap.size := hb2
          rw [foldl_drop _ _ _ _ hlk] at HR
          go_wp2
          all_goals
            refine ⟨⟨k + 1, lastStep addr r2 f[i].pages[k], by omega, by go_num, by go_grown, HR, (by (repeat (first | with_reducible apply hg_here | (with_reducible apply hg_set; focus (dsimp only; omega)) | with_reducible apply hg_alloc)); with_reducible exact g0), hgo (by (repeat (first | with_reducible apply hg_here | (with_reducible apply hg_set; focus (dsimp only; omega)) | with_reducible apply hg_alloc)); with_reducible exact g1) ?_⟩, by simp [intOf]; omega⟩
            try simp only [List.setIfInBounds_toArray, List.set_cons_succ, List.set_cons_zero]
            first | rw [lastStep, if_pos ⟨‹_›, ‹_›, ‹_›⟩] | rw [lastStep, if_neg (by omega)]
            try simp [*]
        · obtain rfl : k = f[i].pages.length := by omega
          rw [foldl_end] at HR
          go_wp2
          exact ⟨⟨i + 1, r2, by omega, by go_num, hX, HR, g0, g1⟩, by simp [intOf]; omega⟩
    · obtain rfl : i = f.length := by omega
      rw [foldl_end] at HR
      have hr := HR.out
      subst hr
      obtain ⟨c0, f0⟩ := cellsK g0
      obtain ⟨c1, f1⟩ := cellsK g1
      go_wp2_with fail
      refine wp_region_st [4] g0 [0, 1, 2, 3, 4, 5] [] [] (by kernel_rfl) (by kernel_rfl) ?late ?_
      case late => exact fun f hf => absurd hf List.not_mem_nil
      refine Rob.y (v := ?_) rfl rfl (fun w1 hx hH => ?_) ?_; rotate_left
      · (obtain ⟨c1, f1⟩ := cellsK (hx.1.keep g1 (by simp))); go_simp; first | done | rfl
      simp only [Act.put, List.setIfInBounds_toArray, List.set_cons_succ, List.set_cons_zero]
      refine Rob.y (v := ?_) rfl rfl (fun w1 hx hH => ?_) ?_; rotate_left
      · go_simp; first | done | rfl | exact (Bool.not_not _).symm
      simp only [Act.put, List.setIfInBounds_toArray, List.set_cons_succ, List.set_cons_zero]
      refine Rob.y (v := ?_) rfl rfl (fun w1 hx hH => ?_) ?_; rotate_left
      · (obtain ⟨c1, f1⟩ := cellsK (hx.1.keep g1 (by simp))); go_simp; first | done | rfl
      simp only [Act.put, List.setIfInBounds_toArray, List.set_cons_succ, List.set_cons_zero]
      refine Rob.y (v := ?_) rfl rfl (fun w1 hx hH => ?_) ?_; rotate_left
      · go_simp; first | done | rfl | exact (Bool.not_not _).symm
      simp only [Act.put, List.setIfInBounds_toArray, List.set_cons_succ, List.set_cons_zero]
      refine Rob.st rfl rfl rfl rfl rfl rfl (by kernel_rfl) (by kernel_rfl) rfl (by omega) (fun lo4 hi4 hlo4 hhi4 => ?_)
      simp only [Act.put, List.setIfInBounds_toArray, List.set_cons_succ, List.set_cons_zero]
      refine Rob.y (v := ?_) rfl rfl (fun w1 hx hH => ?_) ?_; rotate_left
      · go_simp; first | done | rfl | exact (Bool.not_not _).symm
      simp only [Act.put, List.setIfInBounds_toArray, List.set_cons_succ, List.set_cons_zero]
      refine fin_nil (fun w2 hx2 _ => ?_)
      obtain ⟨⟨hC, -⟩, G⟩ := hx2
      obtain ⟨d0, e0⟩ := cellsK G
      have X2 : Ext w w2 := hC.ext hX (by simp)
      clear c0 c1 f0 f1
      go_wp2_with fail
      refine bodyPost_ret (v := .tuple #[recA r, .bool (decide (0 < r.seq))]) (by simp [results, Try.results74, go_sem, d0, e0]) rfl ⟨rfl, X2⟩
end Go.Bu
