/- What two cost: l6In, l22Ok, l22Add, costOk, both CostAdd, toCost. -/
import Derived.Test.YtcainddboblpbaaEq
set_option linter.unusedVariables false
set_option linter.unusedSimpArgs false
namespace Go.Bu
open Go Go.RowKit Go.Plan Go.Proofs

def inB (n lo hi : Int) : Bool := decide (lo ≤ n) && decide (n ≤ hi)
theorem inB_iff {n lo hi : Int} : inB n lo hi = true ↔ lo ≤ n ∧ n ≤ hi := by simp [inB]
theorem inB_no {n lo hi : Int} : inB n lo hi = false ↔ n < lo ∨ hi < n := by
  rw [← Bool.not_eq_true, inB_iff]; omega
def costOkB (c : Cost) : Bool := inB c.writes 0 9999 && inB c.wipes 0 9999 && inB c.disks 0 9999
def costSum (a b : Cost) : Cost := ⟨a.writes + b.writes, a.wipes + b.wipes, a.disks + b.disks⟩
def cost0 : Cost := ⟨0, 0, 0⟩
def costAdd (a b : Cost) : Cost := if costOkB a && costOkB b then costSum a b else cost0

def RetSame (w : World) (v : Value) (e : Ending) (w' : World) : Prop := e = .returned v ∧ w = w'
theorem RetSame.ret {w w' : World} {v : Value} {e : Ending} (h : RetSame w v e w') : Ret w v e w' := ⟨h.1, by rw [← h.2]; exact ext_refl _⟩

theorem l6In_c (n lo hi : Int) (w : World) : Calls Try.prog 36 #[.int .i64 n, .int .i64 lo, .int .i64 hi] w (RetSame w (.bool (inB n lo hi))) := by
  go_enter Try.func36, Try.ntmps36
  go_wp2
  · go_ret; exact ⟨by simp [inB, *], rfl⟩
  · go_ret
    refine ⟨?_, rfl⟩
    have : ¬ lo ≤ n := by omega
    simp [inB, this]

-- (not in this seat: function laws.toCost)

-- (not in this seat: function spec.l22Ok)

-- (not in this seat: function impl.costOk)

-- (not in this seat: function spec.l22Add)

-- (not in this seat: function spec.CostAdd)

-- (not in this seat: function impl.CostAdd)

end Go.Bu
