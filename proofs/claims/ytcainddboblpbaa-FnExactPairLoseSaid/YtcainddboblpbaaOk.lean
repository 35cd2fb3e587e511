/- Records and pages that are well formed, as both sides ask it. -/
import Derived.Test.YtcainddboblpbaaCostA
import Derived.Test.YtcainddboblpbaaOwn2
set_option linter.unusedVariables false
set_option linter.unusedSimpArgs false
namespace Go.Bu
open Go Go.RowKit Go.Plan Go.Proofs

def recOkB (r : Rec) : Bool := inB r.kind 1 2 && inB r.seq 1 600 && inB r.addr 1 6 && inB r.val 0 9
def recZ (r : Rec) : Bool := r.kind == 0 && r.seq == 0 && r.addr == 0 && r.val == 0
def pageOkB (p : Page) : Bool := if p.state = 1 then recOkB p.r else (p.state == 0 || p.state == 2) && recZ p.r

theorem specRecOk_c (r : Rec) (w : World) : Calls Try.prog 108 #[recA r] w (Ret w (.bool (recOkB r))) := by
  go_enter Try.func108, Try.ntmps108
  go_wp2_with (go_at_call 36; refine (l6In_c _ _ _ _).mono ?_; rintro e w' ⟨rfl, rfl⟩)
  all_goals
    go_ret
    refine ⟨?_, ext_alloc (ext_refl _) _⟩
    simp_all [recOkB]

theorem specPageOk_c (p : Page) (w : World) : Calls Try.prog 114 #[pageA p] w (Ret w (.bool (pageOkB p))) := by
  go_enter Try.func114, Try.ntmps114
  go_wp2_with (go_at_call 108; refine (specRecOk_c p.r _).mono ?_; rintro e w' ⟨rfl, hx⟩; have hX := ext_trans (ext_alloc (ext_refl _) _) hx)
  all_goals
    go_ret
    refine ⟨?_, ?_⟩
    · simp_all [pageOkB, recZ]
    · first | with_reducible exact hX | with_reducible exact ext_alloc (ext_refl _) _

theorem addrOk_c (n : Int) (w : World) : Calls Try.prog 126 #[.int .i64 n] w (RetSame w (.bool (inB n 1 6))) := by
  go_enter Try.func126, Try.ntmps126
  go_wp2
  all_goals
    go_ret
    refine ⟨?_, rfl⟩
    simp_all [inB]
    try omega

theorem valOk_c (n : Int) (w : World) : Calls Try.prog 51 #[.int .i64 n] w (RetSame w (.bool (inB n 0 9))) := by
  go_enter Try.func51, Try.ntmps51
  go_wp2
  all_goals
    go_ret
    refine ⟨?_, rfl⟩
    simp_all [inB]
    try omega

/-- what a record is as an entry: its type, or none -/
def entryV (r : Rec) : Value := if r.kind = 1 then .iface 172 (recA r) else if r.kind = 2 then .iface 173 (recA r) else .nilIface

theorem entryOf_c (r : Rec) (w : World) : Calls Try.prog 125 #[recA r] w (Ret w (entryV r)) := by
  go_enter Try.func125, Try.ntmps125
  go_wp2
  all_goals
    go_ret
    refine ⟨?_, ext_alloc (ext_refl _) _⟩
    simp_all [entryV]

def kindB (r : Rec) : Bool := inB r.kind 1 2
theorem entry_not {r : Rec} (w : World) : (binOp .neq 165 (entryV r) .nilIface).run Try.prog w = .ok (.bool (kindB r)) w := by
  unfold entryV kindB
  by_cases h1 : r.kind = 1
  · rw [if_pos h1, h1]; simp [go_sem]; decide
  · rw [if_neg h1]
    by_cases h2 : r.kind = 2
    · rw [if_pos h2, h2]; simp [go_sem]; decide
    · rw [if_neg h2]
      have : inB r.kind 1 2 = false := inB_no.2 (by omega)
      rw [this]; simp [go_sem]

theorem entry_guard {r : Rec} (x : Operand) (v : Value) (w : World) : (eqGuard .neq 165 x (.const v) (entryV r) .nilIface).run Try.prog w = .ok () w := by
  unfold entryV
  by_cases h1 : r.kind = 1
  · rw [if_pos h1]; rfl
  · rw [if_neg h1]
    by_cases h2 : r.kind = 2
    · rw [if_pos h2]; rfl
    · rw [if_neg h2]; cases x <;> rfl

set_option maxHeartbeats 1000000 in
theorem implRecOk_c (r : Rec) (w : World) : Calls Try.prog 115 #[recA r] w (Ret w (.bool (recOkB r))) := by
  have hne := fun w : World => entry_not (r := r) w
  have hgd := fun (x : Operand) (v : Value) (w : World) => entry_guard (r := r) x v w
  go_enter Try.func115, Try.ntmps115
  go_wp2_with fail
  refine (entryOf_c r _).mono ?_; rintro e1 w1 ⟨rfl, hx⟩
  obtain ⟨hc, hf, hz, hX⟩ := after1 hx
  have hq : recOkB r = (kindB r && inB r.seq 1 600 && inB r.addr 1 6 && inB r.val 0 9) := rfl
  generalize entryV r = ev at *
  generalize kindB r = kb at *
  go_wp2_with (first | (go_at_call 126; refine (addrOk_c _ _).mono ?_; rintro e w' ⟨rfl, rfl⟩) | (go_at_call 51; refine (valOk_c _ _).mono ?_; rintro e w' ⟨rfl, rfl⟩))
  all_goals
    go_ret
    refine ⟨?_, hX⟩
    simp_all [inB]
    try omega

theorem implPageOk_c (p : Page) (w : World) : Calls Try.prog 99 #[pageA p] w (Ret w (.bool (pageOkB p))) := by
  go_enter Try.func99, Try.ntmps99
  go_wp2_with (go_at_call 115; refine (implRecOk_c p.r _).mono ?_; rintro e w' ⟨rfl, hx⟩; have hX := ext_trans (ext_alloc (ext_refl _) _) hx)
  all_goals
    go_ret
    refine ⟨?_, ?_⟩
    · simp_all [pageOkB, recZ]
    · first | with_reducible exact hX | with_reducible exact ext_alloc (ext_refl _) _
end Go.Bu
