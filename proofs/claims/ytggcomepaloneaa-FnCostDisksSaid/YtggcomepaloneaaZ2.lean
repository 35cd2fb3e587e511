/- What two cost: l6In, l22Ok, l22Add, costOk, both CostAdd, toCost. Records and pages that are well formed, as both sides ask it. The last record of an address, as the reference finds it. New flashes, stores, pairs, of both sides. New flashes of the program's side, new stores and pairs of both. A flash that is well formed, as the reference asks it: page by page, with the numbers met so far. What the reference finds of a block and of a flash: l3Most, l3Least, l2Clean, l3Next, l3Open, l3Old, l3Live. -/
import Derived.Test.YtggcomepaloneaaZ1
import Derived.Laws.AppendOwn
set_option maxHeartbeats 2000000
set_option linter.unusedVariables false
set_option linter.unusedSimpArgs false
namespace Go.Bu
open Go Go.RowKit Go.Plan Go.Proofs

def inB (n lo hi : Int) : Bool := decide (lo ≤ n) && decide (n ≤ hi)
theorem inB_iff {n lo hi : Int} : inB n lo hi = true ↔ lo ≤ n ∧ n ≤ hi := by simp [inB]
theorem inB_no {n lo hi : Int} : inB n lo hi = false ↔ n < lo ∨ hi < n := by
  rw [← Bool.not_eq_true, inB_iff]; omega
def costOkB (c : Cost) : Bool := inB c.writes 0 9999 && inB c.wipes 0 9999 && inB c.disks 0 9999
def costSum (a b : Cost) : Cost := ⟨a.writes + b.writes, a.wipes + b.wipes, a.disks + b.disks⟩
def cost0 : Cost := ⟨0, 0, 0⟩
def costAdd (a b : Cost) : Cost := if costOkB a && costOkB b then costSum a b else cost0

def RetSame (w : World) (v : Value) (e : Ending) (w' : World) : Prop := e = .returned v ∧ w = w'
theorem RetSame.ret {w w' : World} {v : Value} {e : Ending} (h : RetSame w v e w') : Ret w v e w' := ⟨h.1, by rw [← h.2]; exact ext_refl _⟩

theorem l6In_c (n lo hi : Int) (w : World) : Calls Try.prog 51 #[.int .i64 n, .int .i64 lo, .int .i64 hi] w (RetSame w (.bool (inB n lo hi))) := by
  go_enter Try.func51, Try.ntmps51
  go_wp2
  · go_ret; exact ⟨by simp [inB, *], rfl⟩
  · go_ret
    refine ⟨?_, rfl⟩
    have : ¬ lo ≤ n := by omega
    simp [inB, this]

-- (not in this seat: function laws.toCost)

-- (not in this seat: function spec.l22Ok)

theorem costOk_c (c : Cost) (w : World) : Calls Try.prog 36 #[costA c] w (Ret w (.bool (costOkB c))) := by
  have i0 : ∀ w, (Instr.index 92 (.agg #[.int .i64 c.writes, .int .i64 c.wipes, .int .i64 c.disks]) (.int .i64 0)).run Try.prog w = .ok (.int .i64 c.writes) w := fun _ => by kernel_rfl
  have i1 : ∀ w, (Instr.index 92 (.agg #[.int .i64 c.writes, .int .i64 c.wipes, .int .i64 c.disks]) (.int .i64 1)).run Try.prog w = .ok (.int .i64 c.wipes) w := fun _ => by kernel_rfl
  have i2 : ∀ w, (Instr.index 92 (.agg #[.int .i64 c.writes, .int .i64 c.wipes, .int .i64 c.disks]) (.int .i64 2)).run Try.prog w = .ok (.int .i64 c.disks) w := fun _ => by kernel_rfl
  go_enter Try.func36, Try.ntmps36
  go_wp2
  go_loop [12] (fun i => ∃ k : Nat, k ≤ 3 ∧ i = .int .i64 k ∧ (0 < k → inB c.writes 0 9999 = true) ∧ (1 < k → inB c.wipes 0 9999 = true) ∧ (2 < k → inB c.disks 0 9999 = true)) (fun i => 3 - (intOf i).toNat)
  case atStart => exact ⟨0, by omega, rfl, by omega, by omega, by omega⟩
  case round =>
    obtain ⟨k, hk, rfl, hk1, hk2, hk3⟩ := hrel
    have H1 := Lib.hid hk1; have H2 := Lib.hid hk2; have H3 := Lib.hid hk3
    clear hk1 hk2 hk3
    rcases (show k = 0 ∨ k = 1 ∨ k = 2 ∨ k = 3 by omega) with rfl | rfl | rfl | rfl
    · by_cases h : 0 ≤ c.writes ∧ c.writes ≤ 9999
      · obtain ⟨h1, h2⟩ := h
        go_wp2
        go_round
        case rel => exact ⟨1, by omega, by go_num, fun _ => inB_iff.2 ⟨h1, h2⟩, by omega, by omega⟩
        case measure => simp [intOf]
      · have hf : costOkB c = false := by
          have : inB c.writes 0 9999 = false := inB_no.2 (by omega)
          simp [costOkB, this]
        have HF := Lib.hid hf; clear hf
        go_wp2
        all_goals
          go_ret
          exact ⟨by rw [HF.out]; rfl, ext_alloc (ext_refl _) _⟩
    · by_cases h : 0 ≤ c.wipes ∧ c.wipes ≤ 9999
      · obtain ⟨h1, h2⟩ := h
        go_wp2
        go_round
        case rel => exact ⟨2, by omega, by go_num, fun _ => H1.out (by omega), fun _ => inB_iff.2 ⟨h1, h2⟩, by omega⟩
        case measure => simp [intOf]
      · have hf : costOkB c = false := by
          have : inB c.wipes 0 9999 = false := inB_no.2 (by omega)
          simp [costOkB, this]
        have HF := Lib.hid hf; clear hf
        go_wp2
        all_goals
          go_ret
          exact ⟨by rw [HF.out]; rfl, ext_alloc (ext_refl _) _⟩
    · by_cases h : 0 ≤ c.disks ∧ c.disks ≤ 9999
      · obtain ⟨h1, h2⟩ := h
        go_wp2
        go_round
        case rel => exact ⟨3, by omega, by go_num, fun _ => H1.out (by omega), fun _ => H2.out (by omega), fun _ => inB_iff.2 ⟨h1, h2⟩⟩
        case measure => simp [intOf]
      · have hf : costOkB c = false := by
          have : inB c.disks 0 9999 = false := inB_no.2 (by omega)
          simp [costOkB, this]
        have HF := Lib.hid hf; clear hf
        go_wp2
        all_goals
          go_ret
          exact ⟨by rw [HF.out]; rfl, ext_alloc (ext_refl _) _⟩
    · go_wp2
      go_ret
      refine ⟨?_, ext_alloc (ext_refl _) _⟩
      rw [costOkB, H1.out (by omega), H2.out (by omega), H3.out (by omega)]; rfl

theorem l22Add_c (a b : Cost) (w : World) (ha : costOkB a = true) (hb : costOkB b = true) : Calls Try.prog 26 #[costA a, costA b] w (Ret w (costA (costSum a b))) := by
  simp only [costOkB, Bool.and_eq_true, inB_iff] at ha hb
  obtain ⟨⟨⟨a1, a2⟩, a3, a4⟩, a5, a6⟩ := ha
  obtain ⟨⟨⟨b1, b2⟩, b3, b4⟩, b5, b6⟩ := hb
  go_enter Try.func26, Try.ntmps26
  go_wp2
  refine bodyPost_ret (v := costA (costSum a b)) (by simp [results, Try.results26, go_sem, costSum]) rfl ⟨rfl, ?_⟩
  exact ext_alloc (ext_alloc (ext_alloc (ext_refl _) _) _) _

-- (not in this seat: function spec.CostAdd)

theorem implCostAdd_c (a b : Cost) (w : World) : Calls Try.prog 18 #[costA a, costA b] w (Ret w (costA (costAdd a b))) := by
  by_cases ha : costOkB a = true
  · by_cases hb : costOkB b = true
    · have HR : Hid (costAdd a b = costSum a b) := by unfold Hid; simp [costAdd, ha, hb]
      have ha' := ha
      have hb' := hb
      simp only [costOkB, Bool.and_eq_true, inB_iff] at ha' hb'
      obtain ⟨⟨⟨a1, a2⟩, a3, a4⟩, a5, a6⟩ := ha'
      obtain ⟨⟨⟨b1, b2⟩, b3, b4⟩, b5, b6⟩ := hb'
      go_enter Try.func18, Try.ntmps18
      go_wp2_with fail
      refine (costOk_c a _).mono ?_; rintro e1 w1 ⟨rfl, hx⟩
      obtain ⟨hc, hf, hz0, hz1, hz2, hX⟩ := after3 hx
      go_wp2_with fail
      refine (costOk_c b _).mono ?_; rintro e2 w2 ⟨rfl, hx2⟩
      obtain ⟨hc2, hf2⟩ := bcell hx2
      have hz3 : w.heap.size + 1 + 1 < w2.heap.size := by have := hx2.size; omega
      have hX2 : Ext w w2 := ext_trans hX hx2
      go_wp2_with fail
      refine bodyPost_ret (v := costA (costSum a b)) (by simp [results, Try.results18, go_sem, costSum, hc2, hc, hf2, hf, hz0, hz1, hz2, hz3]) rfl ⟨by rw [HR.out], ?_⟩
      exact ext_set (ext_set (ext_set hX2 (by simp; omega) _) (by simp; omega) _) (by simp; omega) _
    · have HR : Hid (costAdd a b = cost0) := by unfold Hid; simp [costAdd, ha, hb]
      go_enter Try.func18, Try.ntmps18
      go_wp2_with fail
      refine (costOk_c a _).mono ?_; rintro e1 w1 ⟨rfl, hx⟩
      obtain ⟨hc, hf, hz0, hz1, hz2, hX⟩ := after3 hx
      go_wp2_with fail
      refine (costOk_c b _).mono ?_; rintro e2 w2 ⟨rfl, hx2⟩
      obtain ⟨hc2, hf2⟩ := bcell hx2
      have hz3 : w.heap.size + 1 + 1 < w2.heap.size := by have := hx2.size; omega
      have hX2 : Ext w w2 := ext_trans hX hx2
      have hb' : costOkB b = false := by simpa using hb
      go_wp2_with fail
      refine bodyPost_ret (v := costA cost0) (by simp [results, Try.results18, go_sem, cost0, hc2, hc, hf2, hf, hz0, hz1, hz2, hz3]) rfl ⟨by rw [HR.out], ?_⟩
      exact ext_set (ext_set (ext_set hX2 (by simp; omega) _) (by simp; omega) _) (by simp; omega) _
  · have HR : Hid (costAdd a b = cost0) := by unfold Hid; simp [costAdd, ha]
    have ha' : costOkB a = false := by simpa using ha
    go_enter Try.func18, Try.ntmps18
    go_wp2_with fail
    refine (costOk_c a _).mono ?_; rintro e1 w1 ⟨rfl, hx⟩
    obtain ⟨hc, hf, hz0, hz1, hz2, hX⟩ := after3 hx
    go_wp2_with fail
    refine bodyPost_ret (v := costA cost0) (by simp [results, Try.results18, go_sem, cost0, hc, hf, hz0, hz1, hz2]) rfl ⟨by rw [HR.out], ?_⟩
    exact ext_set (ext_set (ext_set hX (by simp; omega) _) (by simp; omega) _) (by simp; omega) _

end Go.Bu

set_option linter.unusedVariables false
set_option linter.unusedSimpArgs false
namespace Go.Bu
open Go Go.RowKit Go.Plan Go.Proofs

def recOkB (r : Rec) : Bool := inB r.kind 1 2 && inB r.seq 1 600 && inB r.addr 1 6 && inB r.val 0 9
def recZ (r : Rec) : Bool := r.kind == 0 && r.seq == 0 && r.addr == 0 && r.val == 0
def pageOkB (p : Page) : Bool := if p.state = 1 then recOkB p.r else (p.state == 0 || p.state == 2) && recZ p.r

theorem specRecOk_c (r : Rec) (w : World) : Calls Try.prog 71 #[recA r] w (Ret w (.bool (recOkB r))) := by
  go_enter Try.func71, Try.ntmps71
  go_wp2_with (go_at_call 51; refine (l6In_c _ _ _ _).mono ?_; rintro e w' ⟨rfl, rfl⟩)
  all_goals
    go_ret
    refine ⟨?_, ext_alloc (ext_refl _) _⟩
    simp_all [recOkB]

theorem specPageOk_c (p : Page) (w : World) : Calls Try.prog 116 #[pageA p] w (Ret w (.bool (pageOkB p))) := by
  go_enter Try.func116, Try.ntmps116
  go_wp2_with (go_at_call 71; refine (specRecOk_c p.r _).mono ?_; rintro e w' ⟨rfl, hx⟩; have hX := ext_trans (ext_alloc (ext_refl _) _) hx)
  all_goals
    go_ret
    refine ⟨?_, ?_⟩
    · simp_all [pageOkB, recZ]
    · first | with_reducible exact hX | with_reducible exact ext_alloc (ext_refl _) _

theorem addrOk_c (n : Int) (w : World) : Calls Try.prog 83 #[.int .i64 n] w (RetSame w (.bool (inB n 1 6))) := by
  go_enter Try.func83, Try.ntmps83
  go_wp2
  all_goals
    go_ret
    refine ⟨?_, rfl⟩
    simp_all [inB]
    try omega

theorem valOk_c (n : Int) (w : World) : Calls Try.prog 65 #[.int .i64 n] w (RetSame w (.bool (inB n 0 9))) := by
  go_enter Try.func65, Try.ntmps65
  go_wp2
  all_goals
    go_ret
    refine ⟨?_, rfl⟩
    simp_all [inB]
    try omega

/-- what a record is as an entry: its type, or none -/
def entryV (r : Rec) : Value := if r.kind = 1 then .iface 157 (recA r) else if r.kind = 2 then .iface 158 (recA r) else .nilIface

theorem entryOf_c (r : Rec) (w : World) : Calls Try.prog 114 #[recA r] w (Ret w (entryV r)) := by
  go_enter Try.func114, Try.ntmps114
  go_wp2
  all_goals
    go_ret
    refine ⟨?_, ext_alloc (ext_refl _) _⟩
    simp_all [entryV]

def kindB (r : Rec) : Bool := inB r.kind 1 2
theorem entry_not {r : Rec} (w : World) : (binOp .neq 153 (entryV r) .nilIface).run Try.prog w = .ok (.bool (kindB r)) w := by
  unfold entryV kindB
  by_cases h1 : r.kind = 1
  · rw [if_pos h1, h1]; simp [go_sem]; decide
  · rw [if_neg h1]
    by_cases h2 : r.kind = 2
    · rw [if_pos h2, h2]; simp [go_sem]; decide
    · rw [if_neg h2]
      have : inB r.kind 1 2 = false := inB_no.2 (by omega)
      rw [this]; simp [go_sem]

theorem entry_guard {r : Rec} (x : Operand) (v : Value) (w : World) : (eqGuard .neq 153 x (.const v) (entryV r) .nilIface).run Try.prog w = .ok () w := by
  unfold entryV
  by_cases h1 : r.kind = 1
  · rw [if_pos h1]; rfl
  · rw [if_neg h1]
    by_cases h2 : r.kind = 2
    · rw [if_pos h2]; rfl
    · rw [if_neg h2]; cases x <;> rfl

set_option maxHeartbeats 1000000 in
theorem implRecOk_c (r : Rec) (w : World) : Calls Try.prog 96 #[recA r] w (Ret w (.bool (recOkB r))) := by
  have hne := fun w : World => entry_not (r := r) w
  have hgd := fun (x : Operand) (v : Value) (w : World) => entry_guard (r := r) x v w
  go_enter Try.func96, Try.ntmps96
  go_wp2_with fail
  refine (entryOf_c r _).mono ?_; rintro e1 w1 ⟨rfl, hx⟩
  obtain ⟨hc, hf, hz, hX⟩ := after1 hx
  have hq : recOkB r = (kindB r && inB r.seq 1 600 && inB r.addr 1 6 && inB r.val 0 9) := rfl
  generalize entryV r = ev at *
  generalize kindB r = kb at *
  go_wp2_with (first | (go_at_call 83; refine (addrOk_c _ _).mono ?_; rintro e w' ⟨rfl, rfl⟩) | (go_at_call 65; refine (valOk_c _ _).mono ?_; rintro e w' ⟨rfl, rfl⟩))
  all_goals
    go_ret
    refine ⟨?_, hX⟩
    simp_all [inB]
    try omega

theorem implPageOk_c (p : Page) (w : World) : Calls Try.prog 108 #[pageA p] w (Ret w (.bool (pageOkB p))) := by
  go_enter Try.func108, Try.ntmps108
  go_wp2_with (go_at_call 96; refine (implRecOk_c p.r _).mono ?_; rintro e w' ⟨rfl, hx⟩; have hX := ext_trans (ext_alloc (ext_refl _) _) hx)
  all_goals
    go_ret
    refine ⟨?_, ?_⟩
    · simp_all [pageOkB, recZ]
    · first | with_reducible exact hX | with_reducible exact ext_alloc (ext_refl _) _
end Go.Bu

set_option linter.unusedVariables false
set_option linter.unusedSimpArgs false
namespace Go.Bu
open Go Go.RowKit Go.Plan Go.Proofs

def lastStep (addr : Int) (r : Rec) (p : Page) : Rec := if p.state = 1 ∧ p.r.addr = addr ∧ r.seq < p.r.seq then p.r else r
def lastP (addr : Int) (r : Rec) (ps : List Page) : Rec := ps.foldl (lastStep addr) r
def rec0 : Rec := ⟨0, 0, 0, 0⟩
def last (f : List Block) (addr : Int) : Rec := f.foldl (fun r b => lastP addr r b.pages) rec0

set_option maxHeartbeats 1000000 in
theorem l3Last_c (v : Value) (f : List Block) (addr : Int) (w : World) (h : Flash (Old w) w v f) (hn : f.length ≤ 1048576) (hp : ∀ b ∈ f, b.pages.length ≤ 1048576) :
    Calls Try.prog 72 #[v, .int .i64 addr] w (Ret w (.tuple #[recA (last f addr), .bool (decide (0 < (last f addr).seq))])) := by
  obtain ⟨a, cap, rfl⟩ := h.form
  obtain ⟨A, hA⟩ : ∃ A, last f addr = A := ⟨_, rfl⟩
  rw [hA]
  unfold last at hA
  have HP := Lib.hid hp; clear hp
  have HA := Lib.hid hA; clear hA
  go_enter Try.func72, Try.ntmps72
  go_wp2
  go_loopw [7] (fun y wr => ∃ (i : Nat) (r : Rec), i ≤ f.length ∧ y = .int .i64 i ∧ Ext w wr ∧ Hid ((f.drop i).foldl (fun r b => lastP addr r b.pages) r = A) ∧
    wr.heap[w.heap.size]? = some (.cells #[.int .i64 0, .int .i64 0, .int .i64 0, .int .i64 0] 62 (0, 0)) ∧ wr.heap[w.heap.size + 1]? = some (.cells #[.int .i64 r.kind, .int .i64 r.seq, .int .i64 r.addr, .int .i64 r.val] 62 (0, 0))) (fun y _ => f.length - (intOf y).toNat)
  case atStart =>
    refine ⟨0, rec0, by omega, rfl, by go_grown, Lib.hid (by simpa using HA.out), ?_, ?_⟩
    · refine hg_alloc (hg_new rfl)
    · refine hg_new (by simp)
  case round =>
    obtain ⟨i, r, hi, rfl, hX, HR, g0, g1⟩ := hrel
    have L1 := heap_lt g1
    by_cases hlt : i < f.length
    · obtain ⟨b, o, pv, rfl, hb, hpp, h0, h1⟩ := h.at2 hlt
      obtain ⟨pa, pcap, rfl⟩ := hpp.form
      obtain ⟨hc, hf⟩ := bcell hX
      have hb' : b < w.heap.size := hb
      have hpl := HP.out f[i] (List.getElem_mem _)
      rw [foldl_drop _ _ _ _ hlt] at HR
      go_wp2
      go_loopw [8] (fun y wr => ∃ (k : Nat) (r : Rec), k ≤ f[i].pages.length ∧ y = .int .i64 k ∧ Ext w wr ∧ Hid ((f.drop (i + 1)).foldl (fun r b => lastP addr r b.pages) ((f[i].pages.drop k).foldl (lastStep addr) r) = A) ∧
        wr.heap[w.heap.size]? = some (.cells #[.int .i64 0, .int .i64 0, .int .i64 0, .int .i64 0] 62 (0, 0)) ∧ wr.heap[w.heap.size + 1]? = some (.cells #[.int .i64 r.kind, .int .i64 r.seq, .int .i64 r.addr, .int .i64 r.val] 62 (0, 0))) (fun y _ => f[i].pages.length - (intOf y).toNat)
      case atStart => exact ⟨0, r, by omega, rfl, hX, HR, g0, g1⟩
      case round =>
        clear hc hf g0 g1 hX HR L1
        obtain ⟨k, r2, hk, rfl, hX, HR, g0, g1⟩ := hrel
        have L1 := heap_lt g1
        obtain ⟨hc, hf⟩ := bcell hX
        obtain ⟨c1, f1⟩ := cellsK g1
        by_cases hlk : k < f[i].pages.length
        · obtain ⟨b2, o2, rfl, hb2, e0, e1, e2, e3, e4⟩ := hpp.at5 hlk
          have hb2' : b2 < w.heap.size := hb2
          rw [foldl_drop _ _ _ _ hlk] at HR
          go_wp2
          all_goals
            refine ⟨⟨k + 1, lastStep addr r2 f[i].pages[k], by omega, by go_num, by go_grown, HR, (by (repeat (first | with_reducible apply hg_here | (with_reducible apply hg_set; focus (dsimp only; omega)) | with_reducible apply hg_alloc)); with_reducible exact g0), hgo (by (repeat (first | with_reducible apply hg_here | (with_reducible apply hg_set; focus (dsimp only; omega)) | with_reducible apply hg_alloc)); with_reducible exact g1) ?_⟩, by simp [intOf]; omega⟩
            try simp only [List.setIfInBounds_toArray, List.set_cons_succ, List.set_cons_zero]
            first | rw [lastStep, if_pos ⟨‹_›, ‹_›, ‹_›⟩] | rw [lastStep, if_neg (by omega)]
            try simp [*]
        · obtain rfl : k = f[i].pages.length := by omega
          rw [foldl_end] at HR
          go_wp2
          exact ⟨⟨i + 1, r2, by omega, by go_num, hX, HR, g0, g1⟩, by simp [intOf]; omega⟩
    · obtain rfl : i = f.length := by omega
      rw [foldl_end] at HR
      have hr := HR.out
      subst hr
      obtain ⟨c0, f0⟩ := cellsK g0
      obtain ⟨c1, f1⟩ := cellsK g1
      go_wp2_with fail
      refine wp_region_st [4] g0 [0, 1, 2, 3, 4, 5] [] [] (by kernel_rfl) (by kernel_rfl) ?late ?_
      case late => exact fun f hf => absurd hf List.not_mem_nil
      refine Rob.y (v := ?_) rfl rfl (fun w1 hx hH => ?_) ?_; rotate_left
      · (obtain ⟨c1, f1⟩ := cellsK (hx.1.keep g1 (by simp))); go_simp; first | done | rfl
      simp only [Act.put, List.setIfInBounds_toArray, List.set_cons_succ, List.set_cons_zero]
      refine Rob.y (v := ?_) rfl rfl (fun w1 hx hH => ?_) ?_; rotate_left
      · go_simp; first | done | rfl | exact (Bool.not_not _).symm
      simp only [Act.put, List.setIfInBounds_toArray, List.set_cons_succ, List.set_cons_zero]
      refine Rob.y (v := ?_) rfl rfl (fun w1 hx hH => ?_) ?_; rotate_left
      · (obtain ⟨c1, f1⟩ := cellsK (hx.1.keep g1 (by simp))); go_simp; first | done | rfl
      simp only [Act.put, List.setIfInBounds_toArray, List.set_cons_succ, List.set_cons_zero]
      refine Rob.y (v := ?_) rfl rfl (fun w1 hx hH => ?_) ?_; rotate_left
      · go_simp; first | done | rfl | exact (Bool.not_not _).symm
      simp only [Act.put, List.setIfInBounds_toArray, List.set_cons_succ, List.set_cons_zero]
      refine Rob.st rfl rfl rfl rfl rfl rfl (by kernel_rfl) (by kernel_rfl) rfl (by omega) (fun lo4 hi4 hlo4 hhi4 => ?_)
      simp only [Act.put, List.setIfInBounds_toArray, List.set_cons_succ, List.set_cons_zero]
      refine Rob.y (v := ?_) rfl rfl (fun w1 hx hH => ?_) ?_; rotate_left
      · go_simp; first | done | rfl | exact (Bool.not_not _).symm
      simp only [Act.put, List.setIfInBounds_toArray, List.set_cons_succ, List.set_cons_zero]
      refine fin_nil (fun w2 hx2 _ => ?_)
      obtain ⟨⟨hC, -⟩, G⟩ := hx2
      obtain ⟨d0, e0⟩ := cellsK G
      have X2 : Ext w w2 := hC.ext hX (by simp)
      clear c0 c1 f0 f1
      go_wp2_with fail
      refine bodyPost_ret (v := .tuple #[recA r, .bool (decide (0 < r.seq))]) (by simp [results, Try.results72, go_sem, d0, e0]) rfl ⟨rfl, X2⟩
end Go.Bu

set_option linter.unusedVariables false
set_option linter.unusedSimpArgs false
namespace Go.Bu
open Go Go.RowKit Go.Plan Go.Proofs

theorem flat_get {α : Type} {n : Nat} {enc : α → List Value} (hn : ∀ x, (enc x).length = n) : ∀ (xs : List α) (i : Nat) (x : α) (j : Nat) (u : Value), xs[i]? = some x → (enc x)[j]? = some u → (xs.flatMap enc)[i * n + j]? = some u
  | [], i, x, j, u, h, _ => by simp at h
  | y :: ys, 0, x, j, u, h, hu => by
    simp at h; subst h
    have hj := (List.getElem?_eq_some_iff.1 hu).1
    rw [List.flatMap_cons, Nat.zero_mul, Nat.zero_add, List.getElem?_append_left hj]; exact hu
  | y :: ys, i + 1, x, j, u, h, hu => by
    rw [List.flatMap_cons, List.getElem?_append_right (by rw [hn, Nat.succ_mul]; omega), hn, show (i + 1) * n + j - n = i * n + j by rw [Nat.succ_mul]; omega]
    exact flat_get hn ys i x j u (by simpa using h) hu

/-- what an append has made, as a row of the call's own -/
theorem OwnT.of_owns {α : Type} {n : Nat} {enc : α → List Value} {e : TypeId} (hn : ∀ x, (enc x).length = n) {base : Nat} {w : World} {v : Value} {xs : List α} (h : w.ownsRow base e n v xs.length (xs.flatMap enc)) (h0 : xs ≠ []) : ∃ B, base ≤ B ∧ OwnT n enc e w v xs B := by
  obtain ⟨h1, h2⟩ := h
  rcases h2 with ⟨_, h2⟩ | ⟨g, cap, cur, hv, hb, hh, hc, hm, hs, ht⟩
  · exact absurd (List.length_eq_zero_iff.1 h2) h0
  · refine ⟨g, hb, 0, cap - xs.length, by rw [hv]; congr 1; omega, cur, hh, fun i x hx j u hu => ?_⟩
    have := flat_get hn xs i x j u hx hu
    rw [← ht] at this
    have hlt := (List.getElem?_eq_some_iff.1 this).1
    rw [List.length_take] at hlt
    rw [List.getElem?_take_of_lt (by omega)] at this
    rw [Nat.zero_add]
    simpa using this

/-- append of one element to a row of the call's own -/
theorem wpList_app {P : Program} {w : World} {ops : Array Oper} {rest : List Oper} {o : Oper} {a : Act} {Q : Exit → Act → World → Prop} (hgd : o.guard = none) (s x : Operand) (t : TypeId)
    (ho : o.op = .call { callee := .builtin .append, args := #[s, x], argTypes := #[t, t] })
    (base : Nat) (e : TypeId) (size bytes : Nat) (ht : P.underlying t = some (.slice e)) (hi : (P.info? e).bind (fun i => i.zero.map fun z => (z.cells.size, i.size, i.bytes)) = some (size, size, bytes)) (hsz : 0 < size)
    (v : Value) (n : Nat) (xs : List Value) (hs : a.eval s = v) (hown : w.ownsRow base e size v n xs)
    (ad : Addr) (m c : Nat) (news : List Value) (hx : a.eval x = .slice (some ad) m c) (hl : news.length = m * size) (hnews : ∀ j u, news[j]? = some u → w.cell? (ad.add j) = some u) (h1 : ∀ u ∈ news, u.oneCell' = true)
    (h63 : n + m ≤ maxLen) (hbytes : (n + m) * bytes ≤ 140737488355328) (hbase : base ≤ w.heap.size)
    (h : ∀ v' w', w'.ownsRow base e size v' (n + m) (xs ++ news) → w.grownBy w' v.ownBlock → wpList P ops Q rest (a.put o.dst v') w') : wpList P ops Q (o :: rest) a w := by
  obtain ⟨i, hi1, hi2⟩ := Option.bind_eq_some_iff.1 hi
  obtain ⟨z, hz, he⟩ := Option.map_eq_some_iff.1 hi2
  obtain ⟨hzs, he⟩ := Prod.mk.inj he
  obtain ⟨hsize, hby⟩ := Prod.mk.inj he
  exact wpList_append_own w hgd s x t ho base e i z size bytes ht hi1 hz hsize hby hzs hsz v n xs hs hown ad m c news hx hl hnews h1 h63 hbytes hbase fun v' w' h2 h3 _ => h v' w' h2 h3

def zPage : Page := ⟨0, ⟨0, 0, 0, 0⟩⟩
def newBlock : Block := ⟨[zPage, zPage, zPage, zPage], 0⟩
def newFlash : List Block := [newBlock, newBlock, newBlock, newBlock]
def newStore : Store := ⟨newFlash, [0, 0, 0, 0, 0, 0]⟩

/-- pages that a make has laid -/
theorem OwnT.zeros {w : World} {B T : Nat} (h : w.heap[B]? = some (.cells (madeCells #[.int .i64 0, .int .i64 0, .int .i64 0, .int .i64 0, .int .i64 0] 20) T (0, 0))) : OwnT 5 pageC T w (.slice (some ⟨B, 0, none⟩) 4 4) newBlock.pages B := by
  refine ⟨0, 0, rfl, _, h, fun i x hx j u hu => ?_⟩
  have hi : i < 4 := (List.getElem?_eq_some_iff.1 hx).1
  have hxz : x = zPage := by
    match i, hi with
    | 0, _ => simpa [newBlock] using hx.symm
    | 1, _ => simpa [newBlock] using hx.symm
    | 2, _ => simpa [newBlock] using hx.symm
    | 3, _ => simpa [newBlock] using hx.symm
  subst hxz
  have hj : j < 5 := (List.getElem?_eq_some_iff.1 hu).1
  have hu0 : u = .int .i64 0 := by
    match j, hj with
    | 0, _ => simpa [zPage] using hu.symm
    | 1, _ => simpa [zPage] using hu.symm
    | 2, _ => simpa [zPage] using hu.symm
    | 3, _ => simpa [zPage] using hu.symm
    | 4, _ => simpa [zPage] using hu.symm
  subst hu0
  have hlt : 0 + i * 5 + j < 20 := by omega
  generalize 0 + i * 5 + j = m at hlt
  simp only [madeCells, Array.getElem?_map, Array.getElem?_range, hlt, if_true, Option.map_some]
  have hm : m % 5 < 5 := Nat.mod_lt _ (by omega)
  show some ((#[Value.int .i64 0, .int .i64 0, .int .i64 0, .int .i64 0, .int .i64 0] : Array Value)[m % 5]!) = _
  generalize m % 5 = q at hm
  match q, hm with
  | 0, _ => rfl
  | 1, _ => rfl
  | 2, _ => rfl
  | 3, _ => rfl
  | 4, _ => rfl

/-- a row that is owned stays as it is behind an append to another of another type -/
theorem OwnT.grown {α : Type} {n : Nat} {enc : α → List Value} {T e : TypeId} {w w' : World} {v u : Value} {xs : List α} {B base size m : Nat} {ys : List Value} (h : OwnT n enc T w v xs B) (hu : w.ownsRow base e size u m ys) (hT : T ≠ e) (hg : w.grownBy w' u.ownBlock) : OwnT n enc T w' v xs B := by
  refine h.keep (hg.block B h.lt fun hB => ?_)
  obtain ⟨c, hc⟩ := h.block
  rcases hu.2 with ⟨rfl, _⟩ | ⟨g, cap, cur, rfl, _, hh, _⟩
  · simp [Value.ownBlock] at hB
  · simp [Value.ownBlock] at hB
    subst hB
    rw [hh] at hc
    simp at hc
    exact hT hc.2.symm

theorem ext_grown {w0 w w' : World} {v : Value} {e : TypeId} {size n : Nat} {xs : List Value} (h : Ext w0 w) (ho : w.ownsRow w0.heap.size e size v n xs) (hg : w.grownBy w' v.ownBlock) : Ext w0 w' := by
  refine Below.grown h hg h.size fun k hk => ?_
  rcases ho.2 with ⟨rfl, _⟩ | ⟨g, cap, cur, rfl, hb, _⟩
  · simp [Value.ownBlock] at hk
  · simp [Value.ownBlock] at hk
    subst hk; exact hb

theorem ownsRow_ext {w w' : World} {base : Nat} {e : TypeId} {size n : Nat} {v : Value} {xs : List Value} (h : w.ownsRow base e size v n xs) (hx : Ext w w') : w'.ownsRow base e size v n xs := by
  obtain ⟨h1, h2⟩ := h
  refine ⟨h1, h2.imp id fun ⟨g, cap, cur, hv, hb, hh, hr⟩ => ⟨g, cap, cur, hv, hb, keep_ext hx hh, hr⟩⟩

set_option maxHeartbeats 1000000 in
theorem specFlashNew_c (w : World) : Calls Try.prog 47 #[] w (fun e w' => ∃ v B bs, e = .returned v ∧ Ext w w' ∧ OwnFlash w' v newFlash B bs ∧ (B :: bs).Nodup ∧ ∀ b ∈ B :: bs, w.heap.size ≤ b) := by
  have hmk : ∀ w : World, (Instr.makeSlice 86 (.int .i64 4) (.int .i64 4)).run Try.prog w = .ok (.slice (some ⟨w.heap.size, 0, none⟩) 4 4) (w.alloc (.cells (madeCells #[.int .i64 0, .int .i64 0, .int .i64 0, .int .i64 0, .int .i64 0] 20) 89)) :=
    make_n (P := Try.prog) 86 89 #[.int .i64 0, .int .i64 0, .int .i64 0, .int .i64 0, .int .i64 0] 5 40 Try.underlying86 (by kernel_rfl) 4 (by omega) (by omega)
  go_enter Try.func47, Try.ntmps47
  go_wp2
  go_loopw [1, 2] (fun v i wr => ∃ (k : Nat) (rows : List (Value × Int)) (bs : List Nat), k ≤ 4 ∧ i = .int .i64 k ∧ Ext w wr ∧ wr.ownsRow w.heap.size 91 2 v k (rows.flatMap rowC) ∧ rows.length = k ∧ bs.length = k ∧ bs.Nodup ∧
    ∀ (i : Nat) r b, rows[i]? = some r → bs[i]? = some b → r.2 = 0 ∧ OwnT 5 pageC 89 wr r.1 newBlock.pages b ∧ w.heap.size ≤ b) (fun _ i _ => 4 - (intOf i).toNat)
  case atStart =>
    refine ⟨0, [], [], by omega, rfl, ext_alloc (ext_refl _) _, ⟨rfl, .inr ⟨w.heap.size, 0, _, rfl, Nat.le_refl _, alloc_get_new rfl, Nat.le_refl _, by simp, rfl, rfl⟩⟩, rfl, rfl, List.nodup_nil, fun i r b h => by simp at h⟩
  case round =>
    obtain ⟨k, rows, bs, hk, rfl, hX, hown, hrl, hbl, hnd, hP⟩ := hrel
    have HP := Lib.hid hP; clear hP
    by_cases hlt : k < 4
    · have hz : ∀ a b : Obj, wr.heap.size < ((wr.alloc a).alloc b).heap.size := fun a b => by simp; omega
      go_wp2_with (refine wpList_app rfl _ _ 38 rfl w.heap.size 91 2 32 Try.underlying38 (by kernel_rfl) (by omega) _ k (rows.flatMap rowC) rfl (ownsRow_ext hown (ext_alloc (ext_alloc (ext_refl _) _) _)) ⟨wr.heap.size + 1, 0, none⟩ 1 1 (rowC (.slice (some ⟨wr.heap.size, 0, none⟩) 4 4, 0)) rfl rfl ?hnews (by simp [Value.oneCell']) (by simp [maxLen]; omega) (by omega) ?hbase fun v' w' hown' hg => ?_)
      case hnews =>
        intro j u hu
        rw [Addr.add_mid, cell_block (alloc_get_new (by simp)), Nat.zero_add]
        simpa using hu
      case hbase => have := hX.size; simp; omega
      have hE2 : ∀ a b : Obj, Ext wr ((wr.alloc a).alloc b) := fun a b => ext_alloc (ext_alloc (ext_refl _) _) _
      have hPage := OwnT.zeros (w := (wr.alloc (.cells (madeCells #[.int .i64 0, .int .i64 0, .int .i64 0, .int .i64 0, .int .i64 0] 20) 89)).alloc (.cells (rowC (.slice (some ⟨wr.heap.size, 0, none⟩) 4 4, 0)).toArray 91)) (keep_ext (ext_alloc (ext_refl _) _) (alloc_get_new rfl))
      have hown0 := ownsRow_ext hown (hE2 (.cells (madeCells #[.int .i64 0, .int .i64 0, .int .i64 0, .int .i64 0, .int .i64 0] 20) 89) (.cells (rowC (.slice (some ⟨wr.heap.size, 0, none⟩) 4 4, 0)).toArray 91))
      refine ⟨⟨k + 1, rows ++ [(.slice (some ⟨wr.heap.size, 0, none⟩) 4 4, 0)], bs ++ [wr.heap.size], by omega, by go_num, ext_grown (ext_trans hX (hE2 _ _)) hown0 hg, by rw [List.flatMap_append]; exact hown', by simp [hrl], by simp [hbl], ?_, fun i r b hr hb => ?_⟩, by simp [intOf]; omega⟩
      · rw [List.nodup_append]
        refine ⟨hnd, by simp, fun a ha b hb => ?_⟩
        rw [List.mem_singleton] at hb
        subst hb
        obtain ⟨i, hi, rfl⟩ := List.mem_iff_getElem.1 ha
        exact Nat.ne_of_lt (HP.out i rows[i] bs[i] (List.getElem?_eq_getElem (by omega)) (List.getElem?_eq_getElem hi)).2.1.lt
      · by_cases hik : i < k
        · rw [List.getElem?_append_left (by omega)] at hr hb
          obtain ⟨h1, h2, h3⟩ := HP.out i r b hr hb
          exact ⟨h1, (h2.ext (hE2 _ _)).grown hown0 (by decide) hg, h3⟩
        · have hi : i = k := by
            have := (List.getElem?_eq_some_iff.1 hb).1
            simp at this; omega
          subst hi
          rw [List.getElem?_append_right (by omega)] at hr hb
          simp [hrl, hbl] at hr hb
          subst hr hb
          exact ⟨rfl, hPage.grown hown0 (by decide) hg, hX.size⟩
    · obtain rfl : k = 4 := by omega
      go_wp2
      obtain ⟨B, hB, hO⟩ := OwnT.of_owns (n := 2) (enc := rowC) (fun _ => rfl) (by rw [hrl]; exact hown) (by intro h; rw [h] at hrl; cases hrl)
      refine bodyPost_ret (v := u1) (by simp [results, Try.results47, go_sem]) rfl ⟨u1, B, bs, rfl, hX, ⟨rows, hO.any, hrl, hbl, fun i x r b hx hr hb => ?_⟩, List.nodup_cons.2 ⟨fun hm => ?_, hnd⟩, fun b hb => ?_⟩
      · obtain ⟨h1, h2, h3⟩ := HP.out i r b hr hb
        have hxb : x = newBlock := by
          have hi : i < 4 := (List.getElem?_eq_some_iff.1 hx).1
          match i, hi with
          | 0, _ => simpa [newFlash] using hx.symm
          | 1, _ => simpa [newFlash] using hx.symm
          | 2, _ => simpa [newFlash] using hx.symm
          | 3, _ => simpa [newFlash] using hx.symm
        subst hxb
        exact ⟨h1, h2.any⟩
      · obtain ⟨i, hi, he⟩ := List.mem_iff_getElem.1 hm
        obtain ⟨h1, h2, h3⟩ := HP.out i rows[i] bs[i] (List.getElem?_eq_getElem (by omega)) (List.getElem?_eq_getElem hi)
        obtain ⟨c, hc⟩ := h2.block
        obtain ⟨c', hc'⟩ := hO.block
        rw [he, hc'] at hc
        simp at hc
      · rcases List.mem_cons.1 hb with rfl | hb
        · exact hB
        · obtain ⟨i, hi, rfl⟩ := List.mem_iff_getElem.1 hb
          exact (HP.out i rows[i] bs[i] (List.getElem?_eq_getElem (by omega)) (List.getElem?_eq_getElem hi)).2.2
end Go.Bu

set_option linter.unusedVariables false
set_option linter.unusedSimpArgs false
namespace Go.Bu
open Go Go.RowKit Go.Plan Go.Proofs

theorem cells5 {w : World} {B T : Nat} {c0 c1 c2 c3 c4 : Value} (h : w.heap[B]? = some (.cells #[c0, c1, c2, c3, c4] T (0, 0))) : w.cell? ⟨B, 0, none⟩ = some c0 ∧ w.cell? ⟨B, 1, none⟩ = some c1 ∧ w.cell? ⟨B, 2, none⟩ = some c2 ∧ w.cell? ⟨B, 3, none⟩ = some c3 ∧ w.cell? ⟨B, 4, none⟩ = some c4 ∧ ∀ j, w.frozen? ⟨B, j, none⟩ = false :=
  ⟨by rw [cell_block h]; rfl, by rw [cell_block h]; rfl, by rw [cell_block h]; rfl, by rw [cell_block h]; rfl, by rw [cell_block h]; rfl, frozen_block h⟩

theorem OwnAt.there {α : Type} {n : Nat} {enc : α → List Value} {T : TypeId} {w : World} {B o : Nat} {xs : List α} (hn : ∀ x, (enc x).length = n) (h : OwnAt n enc T w B o xs) {k : Nat} (hk : k < xs.length) : w.there B (o + k * n) n := by
  intro j hj
  have hx := h.cell (List.getElem?_eq_getElem hk) (j := j) (u := (enc xs[k])[j]'(by rw [hn]; exact hj)) (List.getElem?_eq_getElem _)
  rw [hx, h.frozen]; exact ⟨rfl, rfl⟩

set_option maxHeartbeats 1000000 in
theorem fill_c (B T : Nat) (ps : List Page) (p : Page) (w : World) (h : OwnAt 5 pageC T w B 0 ps) (hl : ps.length = 4) :
    Calls Try.prog 79 #[.pointer (some ⟨B, 0, none⟩), pageA p] w (fun e w' => e = .returned (.tuple #[]) ∧ Chg [B] w w' ∧ OwnAt 5 pageC T w' B 0 [p, p, p, p]) := by
  have hBw := h.lt
  go_enter Try.func79, Try.ntmps79
  go_wp2
  go_loopw [5] (fun i wr => ∃ (k : Nat) (qs : List Page), k ≤ 4 ∧ i = .int .i64 k ∧ Chg [B] w wr ∧ OwnAt 5 pageC T wr B 0 qs ∧ qs.length = 4 ∧ (∃ T', wr.heap[w.heap.size]? = some (.cells (pageC p).toArray T' (0, 0))) ∧ ∀ i : Nat, i < k → qs[i]? = some p) (fun i _ => 4 - (intOf i).toNat)
  case atStart => exact ⟨0, ps, by omega, rfl, (Chg.refl _ _).alloc _, h.ext (ext_alloc (ext_refl _) _), hl, ⟨_, alloc_get_new rfl⟩, fun i hi => absurd hi (Nat.not_lt_zero _)⟩
  case round =>
    obtain ⟨k, qs, hk, rfl, hC, hO, hl, ⟨T', hbox⟩, hq⟩ := hrel
    have HQ := Lib.hid hq; clear hq
    by_cases hlt : k < 4
    · go_wp2_with fail
      refine wp_region_ext [] [0, 1, 2, 3, 4, 5] [] [6] (by kernel_rfl) (by kernel_rfl) ?late ?_
      case late => exact fun f hf => absurd hf List.not_mem_nil
      iterate 2
        refine Rob.y (v := ?_) rfl rfl (fun w1 hx hH => ?_) ?_; rotate_left
        · go_simp; first | done | rfl | exact (Bool.not_not _).symm
        simp only [Act.put, List.setIfInBounds_toArray, List.set_cons_succ, List.set_cons_zero]
      iterate 2
        refine Rob.y (v := ?_) rfl rfl (fun w1 hx hH => ?_) ?_; rotate_left
        · (obtain ⟨p0, p1, p2, p3, p4, pf⟩ := cells5 (keep_ext hx hbox)); go_simp; first | done | rfl
        simp only [Act.put, List.setIfInBounds_toArray, List.set_cons_succ, List.set_cons_zero]
      refine Rob.y (v := ?_) rfl rfl (fun w1 hx hH => ?_) ?_; rotate_left
      · go_simp; first | done | rfl | exact (Bool.not_not _).symm
      simp only [Act.put, List.setIfInBounds_toArray, List.set_cons_succ, List.set_cons_zero]
      refine Rob.y (v := ?_) rfl rfl (fun w1 hx hH => ?_) ?_; rotate_left
      · (obtain ⟨p0, p1, p2, p3, p4, pf⟩ := cells5 (keep_ext hx hbox)); go_simp; first | done | rfl
      simp only [Act.put, List.setIfInBounds_toArray, List.set_cons_succ, List.set_cons_zero]
      refine fin_tail (fun w1 hx1 _ => ?_)
      simp only [dstOf, List.getElem?_cons_succ, List.getElem?_cons_zero, Option.bind_some, Act.put, List.setIfInBounds_toArray, List.set_cons_succ, List.set_cons_zero, List.filterMap_cons, List.filterMap_nil]
      have hO1 := hO.ext hx1
      have hth := OwnAt.there (n := 5) (enc := pageC) (fun _ => rfl) hO1 (k := k) (by omega)
      have hS := OwnAt.set (n := 5) (enc := pageC) (fun _ => rfl) (by omega) hO1 (k := k) (by omega) p
      rw [Nat.zero_add] at hth hS
      have hC1 : Chg [B] w (setAll w1 B (k * 5) (pageC p)) := (((((hC.trans (Chg.of_ext hx1)).set (.inl (by simp)) _).set (.inl (by simp)) _).set (.inl (by simp)) _).set (.inl (by simp)) _).set (.inl (by simp)) _
      have hB1 : (setAll w1 B (k * 5) (pageC p)).heap[w.heap.size]? = some (.cells (pageC p).toArray T' (0, 0)) := by rw [setAll_other B (by omega)]; exact keep_ext hx1 hbox
      refine wpList_store_mid rfl 89 _ _ rfl B (k * 5) (pageC p).toArray rfl rfl hth (by kernel_rfl) (by simp [Value.oneCell']) ?_
      refine wpList_nil ?_
      have HS := Lib.hid hS; have HC := Lib.hid hC1; have HB := Lib.hid hB1
      clear hS hC1 hB1 hO1 hth
      change Exit.inBlock _ _ _ _ (setAll w1 B (k * 5) (pageC p))
      generalize setAll w1 B (k * 5) (pageC p) = w2 at *
      go_wp2
      refine ⟨⟨k + 1, qs.set k p, by omega, by go_num, HC.out, HS.out, by rw [List.length_set]; exact hl, ⟨T', HB.out⟩, fun i hi => ?_⟩, by simp [intOf]; omega⟩
      by_cases hik : i = k
      · subst hik; rw [List.getElem?_set_self (by omega)]
      · rw [List.getElem?_set_ne (Ne.symm hik)]; exact HQ.out i (by omega)
    · obtain rfl : k = 4 := by omega
      go_wp2
      have hqs : qs = [p, p, p, p] := by
        match qs, hl with
        | [a, b, c, d], _ =>
          have h0 := HQ.out 0 (by omega); have h1 := HQ.out 1 (by omega); have h2 := HQ.out 2 (by omega); have h3 := HQ.out 3 (by omega)
          simp at h0 h1 h2 h3
          subst h0 h1 h2 h3
          rfl
      go_end0
      exact ⟨rfl, hC, by rw [← hqs]; exact hO⟩

set_option maxHeartbeats 1000000 in
theorem pagesOf_c (p : Page) (w : World) : Calls Try.prog 58 #[pageA p] w (fun e w' => ∃ v B, e = .returned v ∧ Ext w w' ∧ w.heap.size ≤ B ∧ OwnPages w' v [p, p, p, p] B) := by
  have hZ : madeCells #[.int .i64 0, .int .i64 0, .int .i64 0, .int .i64 0, .int .i64 0] 20 = #[.int .i64 0, .int .i64 0, .int .i64 0, .int .i64 0, .int .i64 0, .int .i64 0, .int .i64 0, .int .i64 0, .int .i64 0, .int .i64 0, .int .i64 0, .int .i64 0, .int .i64 0, .int .i64 0, .int .i64 0, .int .i64 0, .int .i64 0, .int .i64 0, .int .i64 0, .int .i64 0] := by kernel_rfl
  have HZ := Lib.hid hZ; clear hZ
  go_enter Try.func58, Try.ntmps58
  go_wp2_with fail
  refine (fill_c (w.heap.size + 1) _ newBlock.pages p _ (by
    obtain ⟨o, cap, hv, hA⟩ := OwnT.zeros (w := (w.alloc (.cells (pageC p).toArray 89)).alloc (.cells (madeCells #[.int .i64 0, .int .i64 0, .int .i64 0, .int .i64 0, .int .i64 0] 20) 125)) (B := w.heap.size + 1) (T := 125) (alloc_get_new (by simp))
    injection hv with h1 h2 h3
    injection h1 with h1
    injection h1 with h1 h4 h5
    subst h4
    rw [HZ.out] at hA
    exact hA) rfl).mono ?_; rintro e1 w1 ⟨rfl, hc1, hO⟩
  have X1 : Ext w w1 := hc1.ext (ext_alloc (ext_alloc (ext_refl _) _) _) (by simp)
  have HO := Lib.hid hO
  clear hc1 hO
  go_wp2_with fail
  refine bodyPost_ret (v := .slice (some ⟨w.heap.size + 1, 0, none⟩) 4 4) (by simp [results, Try.results58, go_sem]) rfl ⟨_, w.heap.size + 1, rfl, X1, by omega, _, 0, 0, rfl, HO.out⟩

set_option maxHeartbeats 1000000 in
theorem implFlashNew_c (w : World) : Calls Try.prog 35 #[] w (fun e w' => ∃ v B bs, e = .returned v ∧ Ext w w' ∧ OwnFlash w' v newFlash B bs ∧ (B :: bs).Nodup ∧ ∀ b ∈ B :: bs, w.heap.size ≤ b) := by
  have hmk : ∀ w : World, (Instr.makeSlice 38 (.int .i64 4) (.int .i64 4)).run Try.prog w = .ok (.slice (some ⟨w.heap.size, 0, none⟩) 4 4) (w.alloc (.cells #[.slice none 0 0, .int .i64 0, .slice none 0 0, .int .i64 0, .slice none 0 0, .int .i64 0, .slice none 0 0, .int .i64 0] 91)) := fun w => by kernel_rfl
  have h0 : ∀ w : World, OwnAt 2 rowC 91 (w.alloc (.cells #[.slice none 0 0, .int .i64 0, .slice none 0 0, .int .i64 0, .slice none 0 0, .int .i64 0, .slice none 0 0, .int .i64 0] 91)) w.heap.size 0 [(.slice none 0 0, 0), (.slice none 0 0, 0), (.slice none 0 0, 0), (.slice none 0 0, 0)] := by
    intro w
    refine ⟨_, alloc_get_new rfl, fun i x hx j u hu => ?_⟩
    have hi : i < 4 := (List.getElem?_eq_some_iff.1 hx).1
    have hj : j < 2 := by
      have := (List.getElem?_eq_some_iff.1 hu).1
      simpa using this
    rcases (show i = 0 ∨ i = 1 ∨ i = 2 ∨ i = 3 by omega) with rfl | rfl | rfl | rfl <;> (simp at hx; subst hx; rcases (show j = 0 ∨ j = 1 by omega) with rfl | rfl <;> (simp at hu; subst hu; rfl))
  have H0 := Lib.hid h0; clear h0
  go_enter Try.func35, Try.ntmps35
  go_wp2
  go_loopw [6] (fun i wr => ∃ (k : Nat) (rows : List (Value × Int)) (bs : List Nat), k ≤ 4 ∧ i = .int .i64 k ∧ Ext w wr ∧ OwnAt 2 rowC 91 wr w.heap.size 0 rows ∧ rows.length = 4 ∧ bs.length = k ∧ bs.Nodup ∧ w.heap.size ∉ bs ∧ (∀ r ∈ rows, r.2 = 0) ∧
    ∀ (i : Nat) r b, rows[i]? = some r → bs[i]? = some b → r.2 = 0 ∧ OwnPages wr r.1 newBlock.pages b ∧ w.heap.size ≤ b) (fun i _ => 4 - (intOf i).toNat)
  case atStart => exact ⟨0, _, [], by omega, rfl, ext_alloc (ext_refl _) _, H0.out w, rfl, rfl, List.nodup_nil, by simp, by simp, fun i r b h h2 => by simp at h2⟩
  case round =>
    obtain ⟨k, rows, bs, hk, rfl, hX, hA, hrl, hbl, hnd, hnb, hz, hP⟩ := hrel
    have HZ := Lib.hid hz; clear hz
    have HP := Lib.hid hP; clear hP
    by_cases hlt : k < 4
    · go_wp2_with fail
      refine (pagesOf_c zPage _).mono ?_; rintro e1 w1 ⟨pv, b1, rfl, hx1, hb1, hO1⟩
      obtain ⟨o1, cap1, hpv⟩ : ∃ o cap, pv = .slice (some ⟨b1, o, none⟩) 4 cap := by obtain ⟨T1, o1, cap1, hv, _⟩ := hO1; exact ⟨o1, _, hv⟩
      subst hpv
      have hA1 := hA.ext hx1
      obtain ⟨c0, c1⟩ := hA1.two (k := k) (by omega)
      have ef := hA1.frozen
      simp only [Nat.zero_add] at c0 c1
      have hS := OwnAt.set1 (n := 2) (enc := rowC) (fun _ => rfl) hA1 (k := k) (by omega) (j := 0) (by omega) (.slice (some ⟨b1, o1, none⟩) 4 cap1) (.slice (some ⟨b1, o1, none⟩) 4 cap1, rows[k].2) rfl
      simp only [Nat.zero_add, Nat.add_zero] at hS
      have HS := Lib.hid hS; clear hS
      have hAl : w.heap.size < wr.heap.size := hA.lt
      have X1 : Ext w w1 := ext_trans hX hx1
      have hbl1 := hO1.lt
      have HO := Lib.hid hO1; clear hO1
      have h0 : rows[k].2 = 0 := HZ.out _ (List.getElem_mem _)
      go_wp2_with fail
      refine ⟨⟨k + 1, _, bs ++ [b1], by omega, by go_num, ext_set X1 (Nat.le_refl _) _, HS.out, by rw [List.length_set]; exact hrl, by simp [hbl], ?_, ?_, fun r hr => ?_, fun i r b hr hb => ?_⟩, by simp [intOf]; omega⟩
      · rw [List.nodup_append]
        refine ⟨hnd, by simp, fun a ha b hb => ?_⟩
        rw [List.mem_singleton] at hb
        subst hb
        obtain ⟨i, hi, rfl⟩ := List.mem_iff_getElem.1 ha
        have := (HP.out i rows[i] bs[i] (List.getElem?_eq_getElem (by omega)) (List.getElem?_eq_getElem hi)).2.1.lt
        omega
      · simp only [List.mem_append, List.mem_singleton, not_or]
        exact ⟨hnb, by omega⟩
      · rcases List.mem_or_eq_of_mem_set hr with hr | rfl
        · exact HZ.out r hr
        · exact h0
      · by_cases hik : i < k
        · rw [List.getElem?_append_left (by omega)] at hb
          rw [List.getElem?_set_ne (by omega)] at hr
          obtain ⟨h1, h2, h3⟩ := HP.out i r b hr hb
          exact ⟨h1, (h2.ext hx1).keep (setCell_other fun e => hnb (by rw [← e]; exact List.mem_of_getElem? hb)), h3⟩
        · have hi : i = k := by
            have := (List.getElem?_eq_some_iff.1 hb).1
            simp at this; omega
          subst hi
          rw [List.getElem?_append_right (by omega)] at hb
          rw [List.getElem?_set_self (by omega)] at hr
          simp [hbl] at hb
          obtain rfl := Option.some.inj hr
          subst hb
          exact ⟨h0, HO.out.keep (setCell_other (by omega)), by omega⟩
    · obtain rfl : k = 4 := by omega
      go_wp2
      refine bodyPost_ret (v := .slice (some ⟨w.heap.size, 0, none⟩) 4 4) (by simp [results, Try.results35, go_sem]) rfl ⟨_, w.heap.size, bs, rfl, hX, ⟨rows, ⟨_, 0, 0, by rw [hrl], hA⟩, hrl, hbl, fun i x r b hx hr hb => ?_⟩, List.nodup_cons.2 ⟨hnb, hnd⟩, fun b hb => ?_⟩
      · obtain ⟨h1, h2, h3⟩ := HP.out i r b hr hb
        have hxb : x = newBlock := by
          have hi : i < 4 := (List.getElem?_eq_some_iff.1 hx).1
          match i, hi with
          | 0, _ => simpa [newFlash] using hx.symm
          | 1, _ => simpa [newFlash] using hx.symm
          | 2, _ => simpa [newFlash] using hx.symm
          | 3, _ => simpa [newFlash] using hx.symm
        subst hxb
        exact ⟨h1, h2⟩
      · rcases List.mem_cons.1 hb with rfl | hb
        · exact Nat.le_refl _
        · obtain ⟨i, hi, rfl⟩ := List.mem_iff_getElem.1 hb
          exact (HP.out i rows[i] bs[i] (List.getElem?_eq_getElem (by omega)) (List.getElem?_eq_getElem hi)).2.2
end Go.Bu

set_option linter.unusedVariables false
set_option linter.unusedSimpArgs false
namespace Go.Bu
open Go Go.RowKit Go.Plan Go.Proofs

def scanP (prev : Bool) (seen : List Int) : List Page → Option (List Int)
  | [] => some seen
  | p :: ps => if !pageOkB p || (prev && p.state != 0) || (p.state == 1 && seen.contains p.r.seq) then none else scanP (p.state == 0) (if p.state == 1 then p.r.seq :: seen else seen) ps
def scanF (seen : List Int) : List Block → Option (List Int)
  | [] => some seen
  | b :: f => if b.pages.length != 4 || !inB b.worn 0 200 then none else (scanP false seen b.pages).bind fun s => scanF s f
def flashOkB (f : List Block) : Bool := f.length == 4 && (scanF [] f).isSome

theorem scanP_drop (prev : Bool) (seen : List Int) (ps : List Page) (k : Nat) (h : k < ps.length) : scanP prev seen (ps.drop k) =
    if !pageOkB ps[k] || (prev && ps[k].state != 0) || (ps[k].state == 1 && seen.contains ps[k].r.seq) then none else scanP (ps[k].state == 0) (if ps[k].state == 1 then ps[k].r.seq :: seen else seen) (ps.drop (k + 1)) := by
  rw [List.drop_eq_getElem_cons h]; rfl
theorem scanF_drop (seen : List Int) (f : List Block) (k : Nat) (h : k < f.length) : scanF seen (f.drop k) =
    if f[k].pages.length != 4 || !inB f[k].worn 0 200 then none else (scanP false seen f[k].pages).bind fun s => scanF s (f.drop (k + 1)) := by
  rw [List.drop_eq_getElem_cons h]; rfl

theorem scanP_stop {prev : Bool} {seen : List Int} {ps : List Page} {k : Nat} {rest : List Block} {A : Bool} (h : ((scanP prev seen (ps.drop k)).bind fun s => scanF s rest).isSome = A) (hk : k < ps.length)
    (hb : (!pageOkB ps[k] || (prev && ps[k].state != 0) || (ps[k].state == 1 && seen.contains ps[k].r.seq)) = true) : A = false := by
  rw [scanP_drop _ _ _ _ hk, if_pos hb] at h; exact h.symm
theorem scanP_go {prev : Bool} {seen : List Int} {ps : List Page} {k : Nat} {rest : List Block} {A : Bool} (n : Int) (u : Bool) (h : ((scanP prev seen (ps.drop k)).bind fun s => scanF s rest).isSome = A) (hk : k < ps.length) (hp : pageOkB ps[k] = true)
    (hn : ps[k].r.seq = n) (hu : (ps[k].state == 1) = u) (h1 : (prev && ps[k].state != 0) = false) (h2 : (u && seen.contains n) = false) :
    ((scanP (decide (0 < k + 1) && (ps[k + 1 - 1]?).any (·.state == 0)) (if u then n :: seen else seen) (ps.drop (k + 1))).bind fun s => scanF s rest).isSome = A := by
  rw [scanP_drop _ _ _ _ hk, hn, hu, if_neg (by rw [hp, h1, h2]; simp)] at h
  rw [← h]; simp [hk]

theorem pageOk_seq {p : Page} (h : pageOkB p = true) : 0 ≤ p.r.seq ∧ p.r.seq ≤ 600 := by
  unfold pageOkB at h
  by_cases hs : p.state = 1
  · rw [if_pos hs] at h
    simp only [recOkB, Bool.and_eq_true, inB_iff] at h
    omega
  · rw [if_neg hs] at h
    simp only [recZ, Bool.and_eq_true, beq_iff_eq] at h
    omega

/-- the numbers that were met -/
def Seen (w : World) (S : Nat) (L : List Int) : Prop := ∃ c T, w.heap[S]? = some (.cells c T (0, 0)) ∧ ∀ n : Nat, n < 601 → c[n]? = some (.bool (L.contains (n : Int)))
theorem Seen.ext {w w' : World} {S : Nat} {L : List Int} (h : Seen w S L) (hx : Ext w w') : Seen w' S L := by obtain ⟨c, T, h1, h2⟩ := h; exact ⟨c, T, keep_ext hx h1, h2⟩
theorem Seen.cell {w : World} {S : Nat} {L : List Int} (h : Seen w S L) {n : Nat} (hn : n < 601) : w.cell? ⟨S, n, none⟩ = some (.bool (L.contains (n : Int))) := by obtain ⟨c, T, h1, h2⟩ := h; rw [cell_block h1]; exact h2 n hn
theorem Seen.frozen {w : World} {S : Nat} {L : List Int} (h : Seen w S L) (n : Nat) : w.frozen? ⟨S, n, none⟩ = false := by obtain ⟨c, T, h1, h2⟩ := h; exact frozen_block h1 n
theorem Seen.lt {w : World} {S : Nat} {L : List Int} (h : Seen w S L) : S < w.heap.size := by obtain ⟨c, T, h1, h2⟩ := h; exact heap_lt h1
theorem Seen.set {w : World} {S : Nat} {L : List Int} (h : Seen w S L) {n : Nat} (hn : n < 601) (b : Bool) (u : Bool) (hu : u = (L.contains (n : Int) || b)) : Seen (w.setCell ⟨S, n, none⟩ (.bool u)) S (if b then (n : Int) :: L else L) := by
  obtain ⟨c, T, h1, h2⟩ := h
  refine ⟨_, T, setCell_block h1, fun m hm => ?_⟩
  subst hu
  by_cases hmn : m = n
  · subst hmn
    have := (Array.getElem?_eq_some_iff.1 (h2 m hm)).1
    rw [Array.getElem?_setIfInBounds_self_of_lt this]
    cases b <;> simp
  · rw [Array.getElem?_setIfInBounds_ne (Ne.symm hmn), h2 m hm]
    cases b
    · simp
    · have : ((m : Int) == (n : Int)) = false := by simp; omega
      simp [this]
      intro h; omega
theorem Seen.made (w : World) (T : TypeId) : Seen (w.alloc (.cells (madeCells #[.bool false] 601) T)) w.heap.size [] := by
  refine ⟨_, T, alloc_get_new rfl, fun n hn => ?_⟩
  simp only [madeCells, Array.getElem?_map, Array.getElem?_range, hn, if_true, Option.map_some]
  simp [Nat.mod_one]

set_option maxRecDepth 20000 in
set_option maxHeartbeats 1000000 in
theorem specFlashOk_c (v : Value) (f : List Block) (w : World) (h : Flash (Old w) w v f) (hn : f.length ≤ 1048576) :
    Calls Try.prog 112 #[v] w (Ret w (.bool (flashOkB f))) := by
  obtain ⟨a, cap, rfl⟩ := h.form
  obtain ⟨A, hA⟩ : ∃ A, (scanF [] f).isSome = A := ⟨_, rfl⟩
  unfold flashOkB
  rw [hA]
  have HA := Lib.hid hA; clear hA
  have hmk : ∀ w : World, (Instr.makeSlice 155 (.int .i64 601) (.int .i64 601)).run Try.prog w = .ok (.slice (some ⟨w.heap.size, 0, none⟩) 601 601) (w.alloc (.cells (madeCells #[.bool false] 601) 4)) :=
    make_n (P := Try.prog) 155 4 #[.bool false] 1 1 Try.underlying155 (by kernel_rfl) 601 (by omega) (by omega)
  go_enter Try.func112, Try.ntmps112
  go_wp2
  clear hmk
  go_loopw [4] (fun y wr => ∃ (i : Nat) (L : List Int), i ≤ f.length ∧ y = .int .i64 i ∧ Ext w wr ∧ Hid (Seen wr w.heap.size L) ∧ Hid ((scanF L (f.drop i)).isSome = A)) (fun y _ => f.length - (intOf y).toNat)
  case atStart => exact ⟨0, [], by omega, rfl, by go_grown, Lib.hid (Seen.made _ _), Lib.hid (by simpa using HA.out)⟩
  case round =>
    obtain ⟨i, L, hi, rfl, hX, HS, HR⟩ := hrel
    by_cases hlt : i < f.length
    · obtain ⟨b, o, pv, rfl, hb, hpp, h0, h1⟩ := h.at2 hlt
      obtain ⟨pa, pcap, rfl⟩ := hpp.form
      obtain ⟨hc, hf⟩ := bcell hX
      have hb' : b < w.heap.size := hb
      rw [scanF_drop _ _ _ hlt] at HR
      by_cases hlen : f[i].pages.length = 4
      · have hnl : (((4 : Nat) : Int) != 4) = false := by decide
        have HL := Lib.hid hlen
        rw [hlen] at h0 hpp
        clear hlen
        by_cases hworn : inB f[i].worn 0 200 = true
        · go_wp2_with (go_at_call 51; refine (l6In_c _ _ _ _).mono ?_; rintro e1 w1 ⟨rfl, rfl⟩; rw [hworn])
          have HRR : Hid (((scanP false L (f[i].pages.drop 0)).bind fun s => scanF s (f.drop (i + 1))).isSome = A) := by
            have := HR.out
            rw [if_neg (by rw [HL.out, hworn]; decide)] at this
            exact this
          clear hworn HR
          go_loopw [5] (fun y wr => ∃ (k : Nat) (L : List Int), k ≤ 4 ∧ y = .int .i64 k ∧ Ext w wr ∧ Hid (Seen wr w.heap.size L) ∧
            Hid (((scanP (decide (0 < k) && ((f[i].pages[k - 1]?).any (·.state == 0))) L (f[i].pages.drop k)).bind fun s => scanF s (f.drop (i + 1))).isSome = A)) (fun y _ => 4 - (intOf y).toNat)
          case atStart => exact ⟨0, L, by omega, rfl, hX, HS, HRR⟩
          case round =>
            clear hX HS HRR hc hf
            obtain ⟨k, L, hk, rfl, hX, HS, HR⟩ := hrel
            obtain ⟨hc, hf⟩ := bcell hX
            by_cases hk4 : k < 4
            · have hkl : k < f[i].pages.length := by have := HL.out; omega
              obtain ⟨b2, o2, rfl, hb2, e0, e1, e2, e3, e4⟩ := hpp.at5 hkl
              have hb2' : b2 < w.heap.size := hb2
              by_cases hpo : pageOkB f[i].pages[k] = true
              · obtain ⟨n, hnq⟩ : ∃ n : Nat, f[i].pages[k].r.seq = n := ⟨f[i].pages[k].r.seq.toNat, by have := (pageOk_seq hpo).1; omega⟩
                have hn6 : n < 601 := by have := (pageOk_seq hpo).2; omega
                rw [hnq] at e2
                have hpc : ∀ w, Calls Try.prog 116 #[.agg #[.int .i64 f[i].pages[k].state, .int .i64 f[i].pages[k].r.kind, .int .i64 n, .int .i64 f[i].pages[k].r.addr, .int .i64 f[i].pages[k].r.val]] w (Ret w (.bool true)) := by
                  intro w
                  have := specPageOk_c f[i].pages[k] w
                  rw [hpo] at this
                  simp only [pageA, hnq] at this
                  exact this
                have HPC := Lib.hid hpc; have HPO := Lib.hid hpo; have HNQ := Lib.hid hnq
                have sc := HS.out.cell hn6
                have sf := HS.out.frozen n
                have hn7 : ((n : Nat) : Int) < 601 := by omega
                have LS := HS.out.lt
                clear hpc hpo hnq
                rcases k with _ | m
                · simp only [Nat.zero_mul, Nat.add_zero] at e0 e1 e2 e3 e4
                  have HM := Lib.hid (rfl : (0 : Nat) = 0)
                  go_wp2_with (go_at_call 116; (with_reducible refine (HPC.out _).mono ?_); rintro e5 w5 ⟨rfl, hx5⟩; obtain ⟨hc5, hf5, hz5, hX5⟩ := after1 hx5; have hz6 := Nat.lt_trans LS hz5; obtain ⟨hb5, hg5⟩ := bcell (ext_trans hX hX5))
                  all_goals try
                    go_ret
                    have hA := scanP_stop HR.out hkl (by rw [HPO.out, HNQ.out]; first | (simp [HM.out, *]; done) | (simp [HM.out, *]; rename_i hq; exact hq.resolve_left (by simp; assumption)))
                    exact ⟨by rw [hA]; simp, ext_trans hX hX5⟩
                  all_goals
                    have HS5 := Lib.hid (HS.out.ext hX5)
                    refine wp_region_ext [] [0, 1, 2, 3, 4, 5, 6, 7, 8, 9, 10, 11, 12, 13, 14, 15] [] [16] (by kernel_rfl) (by kernel_rfl) ?late ?_
                    case late => exact fun f hf => absurd hf List.not_mem_nil
                    iterate 3
                      refine Rob.y (v := ?_) rfl rfl (fun w1 hx hH => ?_) ?_; rotate_left
                      · go_simp; first | done | rfl | exact (Bool.not_not _).symm
                      simp only [Act.put, List.setIfInBounds_toArray, List.set_cons_succ, List.set_cons_zero]
                    refine Rob.y (v := ?_) rfl rfl (fun w1 hx hH => ?_) ?_; rotate_left
                    · (obtain ⟨hcx, hfx⟩ := bcell hx); go_simp; first | done | rfl
                    simp only [Act.put, List.setIfInBounds_toArray, List.set_cons_succ, List.set_cons_zero]
                    iterate 3
                      refine Rob.y (v := ?_) rfl rfl (fun w1 hx hH => ?_) ?_; rotate_left
                      · go_simp; first | done | rfl | exact (Bool.not_not _).symm
                      simp only [Act.put, List.setIfInBounds_toArray, List.set_cons_succ, List.set_cons_zero]
                    iterate 3
                      refine Rob.y (v := ?_) rfl rfl (fun w1 hx hH => ?_) ?_; rotate_left
                      · (obtain ⟨hcx, hfx⟩ := bcell hx); go_simp; first | done | rfl
                      simp only [Act.put, List.setIfInBounds_toArray, List.set_cons_succ, List.set_cons_zero]
                    refine Rob.yB (b := ?_) rfl rfl (fun w1 hx hH => ?_) (fun hb10 => ?_) (fun hb10 => ?_); rotate_left
                    · go_simp; first | done | rfl | exact (Bool.not_not _).symm
                    focus
                      try contradiction
                      all_goals
                        simp only [Act.put, List.setIfInBounds_toArray, List.set_cons_succ, List.set_cons_zero]
                        iterate 3
                          refine Rob.no rfl rfl ?_
                          simp only [Act.put, List.setIfInBounds_toArray, List.set_cons_succ, List.set_cons_zero]
                        refine Rob.y (v := ?_) rfl rfl (fun w1 hx hH => ?_) ?_; rotate_left
                        · go_simp; first | done | rfl | exact (Bool.not_not _).symm
                        simp only [Act.put, List.setIfInBounds_toArray, List.set_cons_succ, List.set_cons_zero]
                        refine Rob.y (v := ?_) rfl rfl (fun w1 hx hH => ?_) ?_; rotate_left
                        · (obtain ⟨hcx, hfx⟩ := bcell hx); go_simp; first | done | rfl
                        simp only [Act.put, List.setIfInBounds_toArray, List.set_cons_succ, List.set_cons_zero]
                    rotate_right
                    focus
                      try contradiction
                      all_goals
                        simp only [Act.put, List.setIfInBounds_toArray, List.set_cons_succ, List.set_cons_zero]
                        refine Rob.yg (v := ?_) rfl rfl (fun w1 hx hH => ?_) ?_; rotate_left
                        · go_simp; first | done | rfl | exact (Bool.not_not _).symm
                        simp only [Act.put, List.setIfInBounds_toArray, List.set_cons_succ, List.set_cons_zero]
                        refine Rob.yg (v := ?_) rfl rfl (fun w1 hx hH => ?_) ?_; rotate_left
                        · (obtain ⟨hcx, hfx⟩ := bcell hx); go_simp; first | done | rfl
                        simp only [Act.put, List.setIfInBounds_toArray, List.set_cons_succ, List.set_cons_zero]
                        refine Rob.yg (v := ?_) rfl rfl (fun w1 hx hH => ?_) ?_; rotate_left
                        · go_simp; first | done | rfl | exact (Bool.not_not _).symm
                        simp only [Act.put, List.setIfInBounds_toArray, List.set_cons_succ, List.set_cons_zero]
                        refine Rob.y (v := ?_) rfl rfl (fun w1 hx hH => ?_) ?_; rotate_left
                        · go_simp; first | done | rfl | exact (Bool.not_not _).symm
                        simp only [Act.put, List.setIfInBounds_toArray, List.set_cons_succ, List.set_cons_zero]
                        refine Rob.y (v := ?_) rfl rfl (fun w1 hx hH => ?_) ?_; rotate_left
                        · (obtain ⟨hcx, hfx⟩ := bcell hx); go_simp; first | done | rfl
                        simp only [Act.put, List.setIfInBounds_toArray, List.set_cons_succ, List.set_cons_zero]
                    all_goals
                      refine fin_tail (fun w6 hx6 _ => ?_)
                      simp only [dstOf, List.getElem?_cons_succ, List.getElem?_cons_zero, Option.bind_some, Act.put, List.setIfInBounds_toArray, List.set_cons_succ, List.set_cons_zero, List.filterMap_cons, List.filterMap_nil]
                      have sc6 := (HS5.out.ext hx6).cell hn6
                      have sf6 := (HS5.out.ext hx6).frozen n
                      have X6 := ext_trans hX (ext_trans hX5 hx6)
                      refine wpList_plain rfl (fun K hK => ?_)
                      go_simp
                      refine hK _ _ ?_
                      clear hK K
                      refine wpList_nil ?_
                      go_wp2
                      refine ⟨⟨0 + 1, _, by omega, by go_num, ext_set X6 (Nat.le_refl _) _, Lib.hid ((HS5.out.ext hx6).set hn6 (f[i].pages[0].state == 1) _ (by simp [*])), Lib.hid (scanP_go n _ HR.out hkl HPO.out HNQ.out rfl (by simp [HM.out, *]) (by simp [*]))⟩, by simp [intOf]; try omega⟩
                · obtain ⟨b3, o3, heq, hb3, d0, -⟩ := hpp.at5 (k := m) (by omega)
                  simp only [Option.some.injEq, Addr.mk.injEq, and_true] at heq
                  obtain ⟨rfl, rfl⟩ := heq
                  have HM := Lib.hid (List.getElem?_eq_getElem (l := f[i].pages) (i := m) (by omega))
                  go_wp2_with (go_at_call 116; (with_reducible refine (HPC.out _).mono ?_); rintro e5 w5 ⟨rfl, hx5⟩; obtain ⟨hc5, hf5, hz5, hX5⟩ := after1 hx5; have hz6 := Nat.lt_trans LS hz5; obtain ⟨hb5, hg5⟩ := bcell (ext_trans hX hX5))
                  all_goals try
                    go_ret
                    have hA := scanP_stop HR.out hkl (by rw [HPO.out, HNQ.out]; first | (simp [HM.out, *]; done) | (simp [HM.out, *]; rename_i hq; exact hq.resolve_left (by simp; assumption)))
                    exact ⟨by rw [hA]; simp, ext_trans hX hX5⟩
                  all_goals
                    have HS5 := Lib.hid (HS.out.ext hX5)
                    refine wp_region_ext [] [0, 1, 2, 3, 4, 5, 6, 7, 8, 9, 10, 11, 12, 13, 14, 15] [] [16] (by kernel_rfl) (by kernel_rfl) ?late ?_
                    case late => exact fun f hf => absurd hf List.not_mem_nil
                    iterate 3
                      refine Rob.y (v := ?_) rfl rfl (fun w1 hx hH => ?_) ?_; rotate_left
                      · go_simp; first | done | rfl | exact (Bool.not_not _).symm
                      simp only [Act.put, List.setIfInBounds_toArray, List.set_cons_succ, List.set_cons_zero]
                    refine Rob.y (v := ?_) rfl rfl (fun w1 hx hH => ?_) ?_; rotate_left
                    · (obtain ⟨hcx, hfx⟩ := bcell hx); go_simp; first | done | rfl
                    simp only [Act.put, List.setIfInBounds_toArray, List.set_cons_succ, List.set_cons_zero]
                    iterate 3
                      refine Rob.y (v := ?_) rfl rfl (fun w1 hx hH => ?_) ?_; rotate_left
                      · go_simp; first | done | rfl | exact (Bool.not_not _).symm
                      simp only [Act.put, List.setIfInBounds_toArray, List.set_cons_succ, List.set_cons_zero]
                    iterate 3
                      refine Rob.y (v := ?_) rfl rfl (fun w1 hx hH => ?_) ?_; rotate_left
                      · (obtain ⟨hcx, hfx⟩ := bcell hx); go_simp; first | done | rfl
                      simp only [Act.put, List.setIfInBounds_toArray, List.set_cons_succ, List.set_cons_zero]
                    refine Rob.yB (b := ?_) rfl rfl (fun w1 hx hH => ?_) (fun hb10 => ?_) (fun hb10 => ?_); rotate_left
                    · go_simp; first | done | rfl | exact (Bool.not_not _).symm
                    focus
                      try contradiction
                      all_goals
                        simp only [Act.put, List.setIfInBounds_toArray, List.set_cons_succ, List.set_cons_zero]
                        iterate 3
                          refine Rob.no rfl rfl ?_
                          simp only [Act.put, List.setIfInBounds_toArray, List.set_cons_succ, List.set_cons_zero]
                        refine Rob.y (v := ?_) rfl rfl (fun w1 hx hH => ?_) ?_; rotate_left
                        · go_simp; first | done | rfl | exact (Bool.not_not _).symm
                        simp only [Act.put, List.setIfInBounds_toArray, List.set_cons_succ, List.set_cons_zero]
                        refine Rob.y (v := ?_) rfl rfl (fun w1 hx hH => ?_) ?_; rotate_left
                        · (obtain ⟨hcx, hfx⟩ := bcell hx); go_simp; first | done | rfl
                        simp only [Act.put, List.setIfInBounds_toArray, List.set_cons_succ, List.set_cons_zero]
                    rotate_right
                    focus
                      try contradiction
                      all_goals
                        simp only [Act.put, List.setIfInBounds_toArray, List.set_cons_succ, List.set_cons_zero]
                        refine Rob.yg (v := ?_) rfl rfl (fun w1 hx hH => ?_) ?_; rotate_left
                        · go_simp; first | done | rfl | exact (Bool.not_not _).symm
                        simp only [Act.put, List.setIfInBounds_toArray, List.set_cons_succ, List.set_cons_zero]
                        refine Rob.yg (v := ?_) rfl rfl (fun w1 hx hH => ?_) ?_; rotate_left
                        · (obtain ⟨hcx, hfx⟩ := bcell hx); go_simp; first | done | rfl
                        simp only [Act.put, List.setIfInBounds_toArray, List.set_cons_succ, List.set_cons_zero]
                        refine Rob.yg (v := ?_) rfl rfl (fun w1 hx hH => ?_) ?_; rotate_left
                        · go_simp; first | done | rfl | exact (Bool.not_not _).symm
                        simp only [Act.put, List.setIfInBounds_toArray, List.set_cons_succ, List.set_cons_zero]
                        refine Rob.y (v := ?_) rfl rfl (fun w1 hx hH => ?_) ?_; rotate_left
                        · go_simp; first | done | rfl | exact (Bool.not_not _).symm
                        simp only [Act.put, List.setIfInBounds_toArray, List.set_cons_succ, List.set_cons_zero]
                        refine Rob.y (v := ?_) rfl rfl (fun w1 hx hH => ?_) ?_; rotate_left
                        · (obtain ⟨hcx, hfx⟩ := bcell hx); go_simp; first | done | rfl
                        simp only [Act.put, List.setIfInBounds_toArray, List.set_cons_succ, List.set_cons_zero]
                    all_goals
                      refine fin_tail (fun w6 hx6 _ => ?_)
                      simp only [dstOf, List.getElem?_cons_succ, List.getElem?_cons_zero, Option.bind_some, Act.put, List.setIfInBounds_toArray, List.set_cons_succ, List.set_cons_zero, List.filterMap_cons, List.filterMap_nil]
                      have sc6 := (HS5.out.ext hx6).cell hn6
                      have sf6 := (HS5.out.ext hx6).frozen n
                      have X6 := ext_trans hX (ext_trans hX5 hx6)
                      refine wpList_plain rfl (fun K hK => ?_)
                      go_simp
                      refine hK _ _ ?_
                      clear hK K
                      refine wpList_nil ?_
                      go_wp2
                      refine ⟨⟨(m + 1) + 1, _, by omega, by go_num, ext_set X6 (Nat.le_refl _) _, Lib.hid ((HS5.out.ext hx6).set hn6 (f[i].pages[(m + 1)].state == 1) _ (by simp [*])), Lib.hid (scanP_go n _ HR.out hkl HPO.out HNQ.out rfl (by simp [HM.out, *]) (by simp [*]))⟩, by simp [intOf]; try omega⟩
              · have hpf : pageOkB f[i].pages[k] = false := by simpa using hpo
                clear hpo
                go_wp2_with (go_at_call 116; (with_reducible refine (specPageOk_c f[i].pages[k] _).mono ?_); rintro e5 w5 ⟨rfl, hx5⟩; obtain ⟨hc5, hf5, hz5, hX5⟩ := after1 hx5; rw [hpf])
                go_ret
                have hA := scanP_stop HR.out hkl (by rw [hpf]; simp)
                exact ⟨by rw [hA]; simp, ext_trans hX hX5⟩
            · obtain rfl : k = 4 := by omega
              have hR := HR.out
              rw [List.drop_eq_nil_of_le (by have := HL.out; omega)] at hR
              have hR2 : (scanF L (f.drop (i + 1))).isSome = A := hR
              have HR2 := Lib.hid hR2
              clear hR hR2
              go_wp2_with fail
              exact ⟨⟨i + 1, L, by omega, by go_num, hX, HS, HR2⟩, by simp [intOf]; omega⟩
        · have hw' : inB f[i].worn 0 200 = false := by simpa using hworn
          go_wp2_with (go_at_call 51; refine (l6In_c _ _ _ _).mono ?_; rintro e1 w1 ⟨rfl, rfl⟩; rw [hw'])
          go_ret
          have := HR.out
          rw [if_pos (by rw [hw']; simp)] at this
          exact ⟨by rw [← this]; simp, hX⟩
      · have hnl : (((f[i].pages.length : Nat) : Int) != 4) = true := by simp; omega
        have hnl2 : (f[i].pages.length != 4) = true := by simpa using hlen
        have HN := Lib.hid hnl2; clear hnl2
        go_wp2_with fail
        go_ret
        have := HR.out
        rw [if_pos (by rw [HN.out]; rfl)] at this
        exact ⟨by rw [← this]; simp, hX⟩
    · obtain rfl : i = f.length := by omega
      have hr := HR.out
      rw [List.drop_length] at hr
      simp only [scanF, Option.isSome_some] at hr
      subst hr
      go_wp2
      go_ret
      refine ⟨?_, hX⟩
      show Ending.returned (.bool (((f.length : Nat) : Int) == 4)) = _
      rw [Bool.and_true, show (((f.length : Nat) : Int) == 4) = (f.length == 4) from by rw [Bool.eq_iff_iff]; simp; omega]
end Go.Bu

set_option linter.unusedVariables false
set_option linter.unusedSimpArgs false
namespace Go.Bu
open Go Go.RowKit Go.Plan Go.Proofs

def mostStep (n : Int) (p : Page) : Int := if n < p.r.seq then p.r.seq else n
def most (ps : List Page) : Int := ps.foldl mostStep 0
def leastStep (n : Int) (p : Page) : Int := if 0 < p.r.seq ∧ (n = 0 ∨ p.r.seq < n) then p.r.seq else n
def least (ps : List Page) : Int := ps.foldl leastStep 0
def cleanStep (n : Int) (p : Page) : Int := if p.state = 0 then n + 1 else n
def cleanN (ps : List Page) : Int := ps.foldl cleanStep 0
def nextStep (n : Int) (b : Block) : Int := if n < most b.pages then most b.pages else n
def maxSeq (f : List Block) : Int := f.foldl nextStep 0
def next (f : List Block) : Int := maxSeq f + 1

set_option maxHeartbeats 400000 in
theorem l3Most_c (pv : Value) (ps : List Page) (worn : Int) (w : World) (h : Pages (Old w) w pv ps) (hn : ps.length ≤ 1048576) :
    Calls Try.prog 91 #[.agg #[pv, .int .i64 worn]] w (Ret w (.int .i64 (most ps))) := by
  obtain ⟨a, cap, rfl⟩ := h.form
  obtain ⟨A, hA⟩ : ∃ A, most ps = A := ⟨_, rfl⟩
  rw [hA]
  unfold most at hA
  have HA := Lib.hid hA; clear hA
  go_enter Try.func91, Try.ntmps91
  go_wp2
  go_loop [3, 4] (fun n y => ∃ (k : Nat) (m : Int), k ≤ ps.length ∧ y = .int .i64 k ∧ n = .int .i64 m ∧ Hid ((ps.drop k).foldl mostStep m = A)) (fun _ y => ps.length - (intOf y).toNat)
  case atStart => exact ⟨0, 0, by omega, rfl, rfl, HA⟩
  case round =>
    obtain ⟨k, m, hk, rfl, rfl, HR⟩ := hrel
    by_cases hlt : k < ps.length
    · obtain ⟨b, o, rfl, hb, e0, e1, e2, e3, e4⟩ := h.at5 hlt
      have hb' : b < w.heap.size := hb
      rw [foldl_drop _ _ _ _ hlt] at HR
      go_wp2
      exact ⟨⟨k + 1, _, by omega, by go_num, rfl, HR⟩, by simp [intOf]; omega⟩
    · obtain rfl : k = ps.length := by omega
      rw [foldl_end] at HR
      have hr := HR.out
      subst hr
      go_wp2
      go_ret
      exact ⟨rfl, by go_grown⟩

set_option maxHeartbeats 400000 in
theorem l3Least_c (pv : Value) (ps : List Page) (worn : Int) (w : World) (h : Pages (Old w) w pv ps) (hn : ps.length ≤ 1048576) :
    Calls Try.prog 113 #[.agg #[pv, .int .i64 worn]] w (Ret w (.int .i64 (least ps))) := by
  obtain ⟨a, cap, rfl⟩ := h.form
  obtain ⟨A, hA⟩ : ∃ A, least ps = A := ⟨_, rfl⟩
  rw [hA]
  unfold least at hA
  have HA := Lib.hid hA; clear hA
  go_enter Try.func113, Try.ntmps113
  go_wp2
  go_loop [3, 4] (fun n y => ∃ (k : Nat) (m : Int), k ≤ ps.length ∧ y = .int .i64 k ∧ n = .int .i64 m ∧ Hid ((ps.drop k).foldl leastStep m = A)) (fun _ y => ps.length - (intOf y).toNat)
  case atStart => exact ⟨0, 0, by omega, rfl, rfl, HA⟩
  case round =>
    obtain ⟨k, m, hk, rfl, rfl, HR⟩ := hrel
    by_cases hlt : k < ps.length
    · obtain ⟨b, o, rfl, hb, e0, e1, e2, e3, e4⟩ := h.at5 hlt
      have hb' : b < w.heap.size := hb
      rw [foldl_drop _ _ _ _ hlt] at HR
      go_wp2
      all_goals
        try simp only [beq_iff_eq, Bool.not_eq_true, beq_eq_false_iff_ne, ne_eq, bne_iff_ne, bne_eq_false_iff_eq, decide_eq_true_eq, decide_eq_false_iff_not] at *
        refine ⟨⟨k + 1, leastStep m ps[k], by omega, by go_num, ?_, HR⟩, by simp [intOf]; omega⟩
        first | rw [leastStep, if_pos ⟨by omega, by omega⟩] | rw [leastStep, if_neg (by omega)]
    · obtain rfl : k = ps.length := by omega
      rw [foldl_end] at HR
      have hr := HR.out
      subst hr
      go_wp2
      go_ret
      exact ⟨rfl, by go_grown⟩

set_option maxHeartbeats 400000 in
theorem l2Clean_c (pv : Value) (ps : List Page) (worn : Int) (w : World) (h : Pages (Old w) w pv ps) (hn : ps.length ≤ 1048576) :
    Calls Try.prog 90 #[.agg #[pv, .int .i64 worn]] w (Ret w (.int .i64 (cleanN ps))) := by
  obtain ⟨a, cap, rfl⟩ := h.form
  obtain ⟨A, hA⟩ : ∃ A, cleanN ps = A := ⟨_, rfl⟩
  rw [hA]
  unfold cleanN at hA
  have HA := Lib.hid hA; clear hA
  go_enter Try.func90, Try.ntmps90
  go_wp2
  go_loop [3, 4] (fun n y => ∃ (k : Nat) (m : Int), k ≤ ps.length ∧ y = .int .i64 k ∧ n = .int .i64 m ∧ 0 ≤ m ∧ m ≤ k ∧ Hid ((ps.drop k).foldl cleanStep m = A)) (fun _ y => ps.length - (intOf y).toNat)
  case atStart => exact ⟨0, 0, by omega, rfl, rfl, by omega, by omega, HA⟩
  case round =>
    obtain ⟨k, m, hk, rfl, rfl, hm0, hm1, HR⟩ := hrel
    by_cases hlt : k < ps.length
    · obtain ⟨b, o, rfl, hb, e0, e1, e2, e3, e4⟩ := h.at5 hlt
      have hb' : b < w.heap.size := hb
      rw [foldl_drop _ _ _ _ hlt] at HR
      go_wp2
      all_goals
        try simp only [beq_iff_eq, Bool.not_eq_true, beq_eq_false_iff_ne, ne_eq, bne_iff_ne, bne_eq_false_iff_eq, decide_eq_true_eq, decide_eq_false_iff_not] at *
        refine ⟨⟨k + 1, cleanStep m ps[k], by omega, by go_num, ?_, ?_, ?_, HR⟩, by simp [intOf]; omega⟩
        · first | rw [cleanStep, if_pos (by assumption)] | rw [cleanStep, if_neg (by assumption)]
        · unfold cleanStep; split <;> omega
        · unfold cleanStep; split <;> omega
    · obtain rfl : k = ps.length := by omega
      rw [foldl_end] at HR
      have hr := HR.out
      subst hr
      go_wp2
      go_ret
      exact ⟨rfl, by go_grown⟩

set_option maxHeartbeats 400000 in
theorem l3Next_c (v : Value) (f : List Block) (w : World) (h : Flash (Old w) w v f) (hn : f.length ≤ 1048576) (hp : ∀ b ∈ f, b.pages.length ≤ 1048576) (hs : 0 ≤ maxSeq f ∧ maxSeq f ≤ 1000) :
    Calls Try.prog 69 #[v] w (Ret w (.int .i64 (next f))) := by
  obtain ⟨a, cap, rfl⟩ := h.form
  obtain ⟨A, hA⟩ : ∃ A, maxSeq f = A := ⟨_, rfl⟩
  unfold next
  rw [hA] at hs ⊢
  obtain ⟨hs1, hs2⟩ := hs
  unfold maxSeq at hA
  have HA := Lib.hid hA; clear hA
  have HP := Lib.hid hp; clear hp
  go_enter Try.func69, Try.ntmps69
  go_wp2
  go_loopw [3, 4] (fun n y wr => ∃ (k : Nat) (m : Int), k ≤ f.length ∧ y = .int .i64 k ∧ n = .int .i64 m ∧ Ext w wr ∧ Hid ((f.drop k).foldl nextStep m = A)) (fun _ y _ => f.length - (intOf y).toNat)
  case atStart => exact ⟨0, 0, by omega, rfl, rfl, ext_refl _, HA⟩
  case round =>
    obtain ⟨k, m, hk, rfl, rfl, hX, HR⟩ := hrel
    by_cases hlt : k < f.length
    · obtain ⟨b, o, pv, rfl, hb, hpp, h0, h1⟩ := h.at2 hlt
      obtain ⟨hc, hf⟩ := bcell hX
      have hb' : b < w.heap.size := hb
      rw [foldl_drop _ _ _ _ hlt] at HR
      go_wp2_with fail
      refine (l3Most_c pv f[k].pages _ _ (hpp.ext hX) (HP.out _ (List.getElem_mem _))).mono ?_; rintro e1 w1 ⟨rfl, hx1⟩
      have X1 := ext_trans hX hx1
      go_wp2
      exact ⟨⟨k + 1, _, by omega, by go_num, rfl, X1, HR⟩, by simp [intOf]; omega⟩
    · obtain rfl : k = f.length := by omega
      rw [foldl_end] at HR
      have hr := HR.out
      subst hr
      go_wp2
      go_ret
      exact ⟨rfl, hX⟩

def openStep (f : List Block) (i : Nat) (out : Int) (b : Block) : Int := if 0 < cleanN b.pages ∧ (out < 0 ∨ b.worn < (f[out.toNat]?.map (·.worn)).getD 0) then i else out
/-- the scan of l3Open: from block i on, with the best one so far -/
def openScan (f : List Block) : Nat → Int → List Block → Int × Bool
  | _, out, [] => (if 0 < out then out else 0, decide (0 ≤ out))
  | i, out, b :: rest => if 0 < cleanN b.pages ∧ cleanN b.pages < 4 then ((i : Int), true) else openScan f (i + 1) (openStep f i out b) rest
def openB (f : List Block) : Int × Bool := openScan f 0 (-1) f
theorem openScan_drop (f : List Block) (out : Int) (k : Nat) (h : k < f.length) : openScan f k out (f.drop k) = if 0 < cleanN f[k].pages ∧ cleanN f[k].pages < 4 then ((k : Int), true) else openScan f (k + 1) (openStep f k out f[k]) (f.drop (k + 1)) := by
  rw [List.drop_eq_getElem_cons h]; rfl

set_option maxHeartbeats 1000000 in
theorem l3Open_c (v : Value) (f : List Block) (w : World) (h : Flash (Old w) w v f) (hn : f.length ≤ 1048576) (hp : ∀ b ∈ f, b.pages.length ≤ 1048576) :
    Calls Try.prog 68 #[v] w (Ret w (.tuple #[.int .i64 (openB f).1, .bool (openB f).2])) := by
  obtain ⟨a, cap, rfl⟩ := h.form
  obtain ⟨A, hA⟩ : ∃ A, openB f = A := ⟨_, rfl⟩
  rw [hA]
  unfold openB at hA
  have HA := Lib.hid hA; clear hA
  have HP := Lib.hid hp; clear hp
  go_enter Try.func68, Try.ntmps68
  go_wp2
  go_loopw [4, 5] (fun n y wr => ∃ (k : Nat) (m : Int), k ≤ f.length ∧ y = .int .i64 k ∧ n = .int .i64 m ∧ -1 ≤ m ∧ m < f.length ∧ Ext w wr ∧ Hid (openScan f k m (f.drop k) = A)) (fun _ y _ => f.length - (intOf y).toNat)
  case atStart => exact ⟨0, -1, by omega, rfl, rfl, by omega, by omega, ext_refl _, HA⟩
  case round =>
    obtain ⟨k, m, hk, rfl, rfl, hm0, hm1, hX, HR⟩ := hrel
    by_cases hlt : k < f.length
    · obtain ⟨b, o, pv, rfl, hb, hpp, h0, h1⟩ := h.at2 hlt
      obtain ⟨hc, hf⟩ := bcell hX
      have hb' : b < w.heap.size := hb
      rw [openScan_drop _ _ _ hlt] at HR
      go_wp2_with fail
      refine (l2Clean_c pv f[k].pages _ _ (hpp.ext hX) (HP.out _ (List.getElem_mem _))).mono ?_; rintro e1 w1 ⟨rfl, hx1⟩
      have X1 := ext_trans hX hx1
      obtain ⟨hc1, hf1⟩ := bcell X1
      generalize hcn : cleanN f[k].pages = cn at *
      have HCN := Lib.hid hcn; clear hcn
      by_cases hm : m < 0
      · have hst : openStep f k m f[k] = if 0 < cn then (k : Int) else m := by
          unfold openStep; rw [HCN.out]; by_cases h0 : 0 < cn
          · rw [if_pos ⟨h0, .inl hm⟩, if_pos h0]
          · rw [if_neg (fun h => h0 h.1), if_neg h0]
        have HST := Lib.hid hst; clear hst
        go_wp2
        all_goals try
          go_ret2
          refine ⟨?_, X1⟩
          rw [← HR.out, if_pos ⟨by omega, by omega⟩]
          rfl
        all_goals
          have hr := HR.out
          rw [if_neg (by omega), HST.out] at hr
          have HR2 := Lib.hid hr; clear hr
          refine wp_region_ext [] [0, 1, 2, 3, 4, 5, 6, 7, 8, 9, 10, 11, 12, 13, 14, 15, 16, 17, 18] [] [] (by kernel_rfl) (by kernel_rfl) ?late ?_
          case late => exact fun f hf => absurd hf List.not_mem_nil
          iterate 2
            refine Rob.y (v := ?_) rfl rfl (fun w1 hx hH => ?_) ?_; rotate_left
            · go_simp; first | done | rfl | exact (Bool.not_not _).symm
            simp only [Act.put, List.setIfInBounds_toArray, List.set_cons_succ, List.set_cons_zero]
          refine Rob.yB (b := ?_) rfl rfl (fun w1 hx hH => ?_) (fun hb2 => ?_) (fun hb2 => ?_); rotate_left
          · go_simp; first | done | rfl | exact (Bool.not_not _).symm
          focus
            try contradiction
            all_goals
              simp only [Act.put, List.setIfInBounds_toArray, List.set_cons_succ, List.set_cons_zero]
              iterate 2
                refine Rob.yg (v := ?_) rfl rfl (fun w1 hx hH => ?_) ?_; rotate_left
                · go_simp; first | done | rfl | exact (Bool.not_not _).symm
                simp only [Act.put, List.setIfInBounds_toArray, List.set_cons_succ, List.set_cons_zero]
              refine Rob.yB (b := ?_) rfl rfl (fun w1 hx hH => ?_) (fun hb5 => ?_) (fun hb5 => ?_); rotate_left
              · go_simp; first | done | rfl | exact (Bool.not_not _).symm
              focus
                try contradiction
                all_goals
                  simp only [Act.put, List.setIfInBounds_toArray, List.set_cons_succ, List.set_cons_zero]
                  iterate 11
                    refine Rob.no rfl rfl ?_
                    simp only [Act.put, List.setIfInBounds_toArray, List.set_cons_succ, List.set_cons_zero]
                  refine Rob.yg (v := ?_) rfl rfl (fun w1 hx hH => ?_) ?_; rotate_left
                  · go_simp; first | done | rfl | exact (Bool.not_not _).symm
                  simp only [Act.put, List.setIfInBounds_toArray, List.set_cons_succ, List.set_cons_zero]
                  refine Rob.y (v := ?_) rfl rfl (fun w1 hx hH => ?_) ?_; rotate_left
                  · go_simp; first | done | rfl | exact (Bool.not_not _).symm
                  simp only [Act.put, List.setIfInBounds_toArray, List.set_cons_succ, List.set_cons_zero]
              rotate_right
              focus
                try contradiction
                all_goals
                  simp only [Act.put, List.setIfInBounds_toArray, List.set_cons_succ, List.set_cons_zero]
                  iterate 2
                    refine Rob.yg (v := ?_) rfl rfl (fun w1 hx hH => ?_) ?_; rotate_left
                    · go_simp; first | done | rfl | exact (Bool.not_not _).symm
                    simp only [Act.put, List.setIfInBounds_toArray, List.set_cons_succ, List.set_cons_zero]
                  refine Rob.yg (v := ?_) rfl rfl (fun w1 hx hH => ?_) ?_; rotate_left
                  · (obtain ⟨hcx, hfx⟩ := bcell (ext_trans X1 hx)); go_simp; first | done | rfl
                  simp only [Act.put, List.setIfInBounds_toArray, List.set_cons_succ, List.set_cons_zero]
                  refine Rob.yg (v := ?_) rfl rfl (fun w1 hx hH => ?_) ?_; rotate_left
                  · go_simp; first | done | rfl | exact (Bool.not_not _).symm
                  simp only [Act.put, List.setIfInBounds_toArray, List.set_cons_succ, List.set_cons_zero]
                  refine Rob.yg (v := ?_) rfl rfl (fun w1 hx hH => ?_) ?_; rotate_left
                  · (obtain ⟨hcx, hfx⟩ := bcell (ext_trans X1 hx)); go_simp; first | done | rfl
                  simp only [Act.put, List.setIfInBounds_toArray, List.set_cons_succ, List.set_cons_zero]
                  iterate 2
                    refine Rob.yg (v := ?_) rfl rfl (fun w1 hx hH => ?_) ?_; rotate_left
                    · go_simp; first | done | rfl | exact (Bool.not_not _).symm
                    simp only [Act.put, List.setIfInBounds_toArray, List.set_cons_succ, List.set_cons_zero]
                  refine Rob.yg (v := ?_) rfl rfl (fun w1 hx hH => ?_) ?_; rotate_left
                  · (obtain ⟨hcx, hfx⟩ := bcell (ext_trans X1 hx)); go_simp; first | done | rfl
                  simp only [Act.put, List.setIfInBounds_toArray, List.set_cons_succ, List.set_cons_zero]
                  refine Rob.yg (v := ?_) rfl rfl (fun w1 hx hH => ?_) ?_; rotate_left
                  · go_simp; first | done | rfl | exact (Bool.not_not _).symm
                  simp only [Act.put, List.setIfInBounds_toArray, List.set_cons_succ, List.set_cons_zero]
                  refine Rob.yg (v := ?_) rfl rfl (fun w1 hx hH => ?_) ?_; rotate_left
                  · (obtain ⟨hcx, hfx⟩ := bcell (ext_trans X1 hx)); go_simp; first | done | rfl
                  simp only [Act.put, List.setIfInBounds_toArray, List.set_cons_succ, List.set_cons_zero]
                  iterate 2
                    refine Rob.yg (v := ?_) rfl rfl (fun w1 hx hH => ?_) ?_; rotate_left
                    · go_simp; first | done | rfl | exact (Bool.not_not _).symm
                    simp only [Act.put, List.setIfInBounds_toArray, List.set_cons_succ, List.set_cons_zero]
                  refine Rob.y (v := ?_) rfl rfl (fun w1 hx hH => ?_) ?_; rotate_left
                  · go_simp; first | done | rfl | exact (Bool.not_not _).symm
                  simp only [Act.put, List.setIfInBounds_toArray, List.set_cons_succ, List.set_cons_zero]
          rotate_right
          focus
            try contradiction
            all_goals
              simp only [Act.put, List.setIfInBounds_toArray, List.set_cons_succ, List.set_cons_zero]
              iterate 15
                refine Rob.no rfl rfl ?_
                simp only [Act.put, List.setIfInBounds_toArray, List.set_cons_succ, List.set_cons_zero]
              refine Rob.y (v := ?_) rfl rfl (fun w1 hx hH => ?_) ?_; rotate_left
              · go_simp; first | done | rfl | exact (Bool.not_not _).symm
              simp only [Act.put, List.setIfInBounds_toArray, List.set_cons_succ, List.set_cons_zero]
          all_goals
            refine fin_nil (fun w2 hx2 _ => ?_)
            have X2 := ext_trans X1 hx2
            try simp only [beq_iff_eq, Bool.not_eq_true, beq_eq_false_iff_ne, ne_eq, bne_iff_ne, bne_eq_false_iff_eq, decide_eq_true_eq, decide_eq_false_iff_not] at *
            go_wp2
            all_goals try (exfalso; omega)
            all_goals
              have hr := HR2.out
              first | rw [if_pos (by omega)] at hr | rw [if_neg (by omega)] at hr
              exact ⟨⟨k + 1, _, by omega, by go_num, rfl, by omega, by omega, X2, Lib.hid hr⟩, by simp [intOf]; omega⟩
      · obtain ⟨mm, rfl⟩ : ∃ n : Nat, m = n := ⟨m.toNat, by omega⟩
        obtain ⟨b2, o2, pv2, heq, hb2, hpp2, d0, d1⟩ := h.at2 (k := mm) (by omega)
        simp only [Option.some.injEq, Addr.mk.injEq, and_true] at heq
        obtain ⟨rfl, rfl⟩ := heq
        have hst : openStep f k mm f[k] = if 0 < cn ∧ f[k].worn < f[mm].worn then (k : Int) else mm := by
          unfold openStep; rw [HCN.out, Int.toNat_natCast, List.getElem?_eq_getElem (by omega)]
          simp
          split <;> split <;> first | rfl | (exfalso; omega)
        have HST := Lib.hid hst; clear hst
        go_wp2
        all_goals try
          go_ret2
          refine ⟨?_, X1⟩
          rw [← HR.out, if_pos ⟨by omega, by omega⟩]
          rfl
        all_goals
          have hr := HR.out
          rw [if_neg (by omega), HST.out] at hr
          have HR2 := Lib.hid hr; clear hr
          refine wp_region_ext [] [0, 1, 2, 3, 4, 5, 6, 7, 8, 9, 10, 11, 12, 13, 14, 15, 16, 17, 18] [] [] (by kernel_rfl) (by kernel_rfl) ?late ?_
          case late => exact fun f hf => absurd hf List.not_mem_nil
          iterate 2
            refine Rob.y (v := ?_) rfl rfl (fun w1 hx hH => ?_) ?_; rotate_left
            · go_simp; first | done | rfl | exact (Bool.not_not _).symm
            simp only [Act.put, List.setIfInBounds_toArray, List.set_cons_succ, List.set_cons_zero]
          refine Rob.yB (b := ?_) rfl rfl (fun w1 hx hH => ?_) (fun hb2 => ?_) (fun hb2 => ?_); rotate_left
          · go_simp; first | done | rfl | exact (Bool.not_not _).symm
          focus
            try contradiction
            all_goals
              simp only [Act.put, List.setIfInBounds_toArray, List.set_cons_succ, List.set_cons_zero]
              iterate 2
                refine Rob.yg (v := ?_) rfl rfl (fun w1 hx hH => ?_) ?_; rotate_left
                · go_simp; first | done | rfl | exact (Bool.not_not _).symm
                simp only [Act.put, List.setIfInBounds_toArray, List.set_cons_succ, List.set_cons_zero]
              refine Rob.yB (b := ?_) rfl rfl (fun w1 hx hH => ?_) (fun hb5 => ?_) (fun hb5 => ?_); rotate_left
              · go_simp; first | done | rfl | exact (Bool.not_not _).symm
              focus
                try contradiction
                all_goals
                  simp only [Act.put, List.setIfInBounds_toArray, List.set_cons_succ, List.set_cons_zero]
                  iterate 11
                    refine Rob.no rfl rfl ?_
                    simp only [Act.put, List.setIfInBounds_toArray, List.set_cons_succ, List.set_cons_zero]
                  refine Rob.yg (v := ?_) rfl rfl (fun w1 hx hH => ?_) ?_; rotate_left
                  · go_simp; first | done | rfl | exact (Bool.not_not _).symm
                  simp only [Act.put, List.setIfInBounds_toArray, List.set_cons_succ, List.set_cons_zero]
                  refine Rob.y (v := ?_) rfl rfl (fun w1 hx hH => ?_) ?_; rotate_left
                  · go_simp; first | done | rfl | exact (Bool.not_not _).symm
                  simp only [Act.put, List.setIfInBounds_toArray, List.set_cons_succ, List.set_cons_zero]
              rotate_right
              focus
                try contradiction
                all_goals
                  simp only [Act.put, List.setIfInBounds_toArray, List.set_cons_succ, List.set_cons_zero]
                  iterate 2
                    refine Rob.yg (v := ?_) rfl rfl (fun w1 hx hH => ?_) ?_; rotate_left
                    · go_simp; first | done | rfl | exact (Bool.not_not _).symm
                    simp only [Act.put, List.setIfInBounds_toArray, List.set_cons_succ, List.set_cons_zero]
                  refine Rob.yg (v := ?_) rfl rfl (fun w1 hx hH => ?_) ?_; rotate_left
                  · (obtain ⟨hcx, hfx⟩ := bcell (ext_trans X1 hx)); go_simp; first | done | rfl
                  simp only [Act.put, List.setIfInBounds_toArray, List.set_cons_succ, List.set_cons_zero]
                  refine Rob.yg (v := ?_) rfl rfl (fun w1 hx hH => ?_) ?_; rotate_left
                  · go_simp; first | done | rfl | exact (Bool.not_not _).symm
                  simp only [Act.put, List.setIfInBounds_toArray, List.set_cons_succ, List.set_cons_zero]
                  refine Rob.yg (v := ?_) rfl rfl (fun w1 hx hH => ?_) ?_; rotate_left
                  · (obtain ⟨hcx, hfx⟩ := bcell (ext_trans X1 hx)); go_simp; first | done | rfl
                  simp only [Act.put, List.setIfInBounds_toArray, List.set_cons_succ, List.set_cons_zero]
                  iterate 2
                    refine Rob.yg (v := ?_) rfl rfl (fun w1 hx hH => ?_) ?_; rotate_left
                    · go_simp; first | done | rfl | exact (Bool.not_not _).symm
                    simp only [Act.put, List.setIfInBounds_toArray, List.set_cons_succ, List.set_cons_zero]
                  refine Rob.yg (v := ?_) rfl rfl (fun w1 hx hH => ?_) ?_; rotate_left
                  · (obtain ⟨hcx, hfx⟩ := bcell (ext_trans X1 hx)); go_simp; first | done | rfl
                  simp only [Act.put, List.setIfInBounds_toArray, List.set_cons_succ, List.set_cons_zero]
                  refine Rob.yg (v := ?_) rfl rfl (fun w1 hx hH => ?_) ?_; rotate_left
                  · go_simp; first | done | rfl | exact (Bool.not_not _).symm
                  simp only [Act.put, List.setIfInBounds_toArray, List.set_cons_succ, List.set_cons_zero]
                  refine Rob.yg (v := ?_) rfl rfl (fun w1 hx hH => ?_) ?_; rotate_left
                  · (obtain ⟨hcx, hfx⟩ := bcell (ext_trans X1 hx)); go_simp; first | done | rfl
                  simp only [Act.put, List.setIfInBounds_toArray, List.set_cons_succ, List.set_cons_zero]
                  iterate 2
                    refine Rob.yg (v := ?_) rfl rfl (fun w1 hx hH => ?_) ?_; rotate_left
                    · go_simp; first | done | rfl | exact (Bool.not_not _).symm
                    simp only [Act.put, List.setIfInBounds_toArray, List.set_cons_succ, List.set_cons_zero]
                  refine Rob.y (v := ?_) rfl rfl (fun w1 hx hH => ?_) ?_; rotate_left
                  · go_simp; first | done | rfl | exact (Bool.not_not _).symm
                  simp only [Act.put, List.setIfInBounds_toArray, List.set_cons_succ, List.set_cons_zero]
          rotate_right
          focus
            try contradiction
            all_goals
              simp only [Act.put, List.setIfInBounds_toArray, List.set_cons_succ, List.set_cons_zero]
              iterate 15
                refine Rob.no rfl rfl ?_
                simp only [Act.put, List.setIfInBounds_toArray, List.set_cons_succ, List.set_cons_zero]
              refine Rob.y (v := ?_) rfl rfl (fun w1 hx hH => ?_) ?_; rotate_left
              · go_simp; first | done | rfl | exact (Bool.not_not _).symm
              simp only [Act.put, List.setIfInBounds_toArray, List.set_cons_succ, List.set_cons_zero]
          all_goals
            refine fin_nil (fun w2 hx2 _ => ?_)
            have X2 := ext_trans X1 hx2
            try simp only [beq_iff_eq, Bool.not_eq_true, beq_eq_false_iff_ne, ne_eq, bne_iff_ne, bne_eq_false_iff_eq, decide_eq_true_eq, decide_eq_false_iff_not] at *
            go_wp2
            all_goals try (exfalso; omega)
            all_goals
              have hr := HR2.out
              first | rw [if_pos (by omega)] at hr | rw [if_neg (by omega)] at hr
              exact ⟨⟨k + 1, _, by omega, by go_num, rfl, by omega, by omega, X2, Lib.hid hr⟩, by simp [intOf]; omega⟩
    · obtain rfl : k = f.length := by omega
      rw [List.drop_length, openScan] at HR
      go_wp2
      all_goals
        go_ret2
        refine ⟨?_, hX⟩
        rw [← HR.out]
        simp
        try omega

/-- the scan of l3Old: from block i on, with the eldest one so far -/
def oldScan (f : List Block) : Nat → Nat → List Block → Nat
  | _, out, [] => out
  | i, out, b :: rest => oldScan f (i + 1) (if most b.pages < most ((f[out]?.map (·.pages)).getD []) then i else out) rest
def old (f : List Block) : Nat := oldScan f 1 0 (f.drop 1)
theorem oldScan_drop (f : List Block) (out : Nat) (k : Nat) (h : k < f.length) : oldScan f k out (f.drop k) = oldScan f (k + 1) (if most f[k].pages < most ((f[out]?.map (·.pages)).getD []) then k else out) (f.drop (k + 1)) := by
  rw [List.drop_eq_getElem_cons h]; rfl

set_option maxHeartbeats 1000000 in
theorem l3Old_c (v : Value) (f : List Block) (w : World) (h : Flash (Old w) w v f) (hn : f.length ≤ 1048576) (hp : ∀ b ∈ f, b.pages.length ≤ 1048576) :
    Calls Try.prog 92 #[v] w (Ret w (.int .i64 (old f))) := by
  obtain ⟨a, cap, rfl⟩ := h.form
  obtain ⟨A, hA⟩ : ∃ A, old f = A := ⟨_, rfl⟩
  rw [hA]
  unfold old at hA
  have HA := Lib.hid hA; clear hA
  have HP := Lib.hid hp; clear hp
  go_enter Try.func92, Try.ntmps92
  go_wp2
  go_loopw [3, 4] (fun n y wr => ∃ (k m : Nat), 1 ≤ k ∧ (k ≤ f.length ∨ k = 1) ∧ y = .int .i64 k ∧ n = .int .i64 m ∧ (m < f.length ∨ m = 0) ∧ Ext w wr ∧ Hid (oldScan f k m (f.drop k) = A)) (fun _ y _ => f.length - (intOf y).toNat)
  case atStart => exact ⟨1, 0, by omega, .inr rfl, rfl, rfl, .inr rfl, ext_refl _, HA⟩
  case round =>
    obtain ⟨k, m, hk1, hk, rfl, rfl, hm, hX, HR⟩ := hrel
    by_cases hlt : k < f.length
    · obtain ⟨b, o, pv, rfl, hb, hpp, h0, h1⟩ := h.at2 hlt
      have hm' : m < f.length := by omega
      obtain ⟨b2, o2, pv2, heq, hb2, hpp2, d0, d1⟩ := h.at2 hm'
      simp only [Option.some.injEq, Addr.mk.injEq, and_true] at heq
      obtain ⟨rfl, rfl⟩ := heq
      have hb' : b < w.heap.size := hb
      rw [oldScan_drop _ _ _ hlt, List.getElem?_eq_getElem hm'] at HR
      clear hm hk
      go_wp2_with fail
      refine wp_region_ext [4, 9] [0, 1, 2, 3, 5, 6, 7, 8, 4, 9, 10] [] [] (by kernel_rfl) (by kernel_rfl) ?late ?_
      case late => exact fun f hf => absurd hf List.not_mem_nil
      iterate 2
        refine Rob.y (v := ?_) rfl rfl (fun w1 hx hH => ?_) ?_; rotate_left
        · go_simp; first | done | rfl | exact (Bool.not_not _).symm
        simp only [Act.put, List.setIfInBounds_toArray, List.set_cons_succ, List.set_cons_zero]
      iterate 2
        refine Rob.y (v := ?_) rfl rfl (fun w1 hx hH => ?_) ?_; rotate_left
        · (obtain ⟨hcx, hfx⟩ := bcell (ext_trans hX hx)); go_simp; first | done | rfl
        simp only [Act.put, List.setIfInBounds_toArray, List.set_cons_succ, List.set_cons_zero]
      iterate 2
        refine Rob.y (v := ?_) rfl rfl (fun w1 hx hH => ?_) ?_; rotate_left
        · go_simp; first | done | rfl | exact (Bool.not_not _).symm
        simp only [Act.put, List.setIfInBounds_toArray, List.set_cons_succ, List.set_cons_zero]
      iterate 2
        refine Rob.y (v := ?_) rfl rfl (fun w1 hx hH => ?_) ?_; rotate_left
        · (obtain ⟨hcx, hfx⟩ := bcell (ext_trans hX hx)); go_simp; first | done | rfl
        simp only [Act.put, List.setIfInBounds_toArray, List.set_cons_succ, List.set_cons_zero]
      refine Rob.cv (.int .i64 (most f[k].pages)) rfl rfl rfl (fun _ _ => ext_trans) (fun w1 hx hH => ?_) (fun lo4 hi4 hlo4 hhi4 => ?_)
      · unfold RunTo; go_simp; exact (l3Most_c pv f[k].pages _ _ (hpp.ext (ext_trans hX hx)) (HP.out _ (List.getElem_mem _))).mono fun e w' h => h.to
      simp only [Act.put, List.setIfInBounds_toArray, List.set_cons_succ, List.set_cons_zero]
      refine Rob.cv (.int .i64 (most f[m].pages)) rfl rfl rfl (fun _ _ => ext_trans) (fun w1 hx hH => ?_) (fun lo9 hi9 hlo9 hhi9 => ?_)
      · unfold RunTo; go_simp; exact (l3Most_c pv2 f[m].pages _ _ (hpp2.ext (ext_trans hX hx)) (HP.out _ (List.getElem_mem _))).mono fun e w' h => h.to
      simp only [Act.put, List.setIfInBounds_toArray, List.set_cons_succ, List.set_cons_zero]
      refine Rob.y (v := ?_) rfl rfl (fun w1 hx hH => ?_) ?_; rotate_left
      · go_simp; first | done | rfl | exact (Bool.not_not _).symm
      simp only [Act.put, List.setIfInBounds_toArray, List.set_cons_succ, List.set_cons_zero]
      refine fin_nil (fun w2 hx2 _ => ?_)
      have X2 := ext_trans hX hx2
      go_wp2
      all_goals
        have hr := HR.out
        simp only [Option.map_some, Option.getD_some] at hr
        first | rw [if_pos (by omega)] at hr | rw [if_neg (by omega)] at hr
        exact ⟨⟨k + 1, _, by omega, .inl (by omega), by go_num, rfl, .inl (by omega), X2, Lib.hid hr⟩, by simp [intOf]; omega⟩
    · rw [List.drop_eq_nil_of_le (by omega), oldScan] at HR
      have hr := HR.out
      subst hr
      go_wp2
      go_ret
      exact ⟨rfl, hX⟩

def liveP (f : List Block) (p : Page) : Bool := p.state == 1 && recEq (last f p.r.addr) p.r

set_option maxHeartbeats 1000000 in
theorem l3Live_c (v : Value) (f : List Block) (p : Page) (w : World) (h : Flash (Old w) w v f) (hn : f.length ≤ 1048576) (hp : ∀ b ∈ f, b.pages.length ≤ 1048576) :
    Calls Try.prog 93 #[v, pageA p] w (Ret w (.bool (liveP f p))) := by
  have hq : liveP f p = (p.state == 1 && recEq (last f p.r.addr) p.r) := rfl
  have HQ := Lib.hid hq; clear hq
  have HP := Lib.hid hp; clear hp
  go_enter Try.func93, Try.ntmps93
  go_wp2_with (go_at_call 72; (with_reducible refine (l3Last_c v f p.r.addr _ (h.ext (ext_alloc (ext_refl _) _)) hn HP.out).mono ?_); rintro e1 w1 ⟨rfl, hx⟩; obtain ⟨hc, hf, hz, hX⟩ := after1 hx)
  all_goals
    go_ret
    try simp only [beq_iff_eq, Bool.not_eq_true, beq_eq_false_iff_ne, ne_eq, bne_iff_ne, bne_eq_false_iff_eq, decide_eq_true_eq, decide_eq_false_iff_not] at *
    refine ⟨by rw [HQ.out]; simp [recEq, *], by go_grown⟩
end Go.Bu
