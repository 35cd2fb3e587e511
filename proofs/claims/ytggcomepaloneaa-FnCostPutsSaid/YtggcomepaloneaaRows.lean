/-
  No cell of these rows narrows 'for every input' (looked for: loops, veiled, ifaces, maps, wideKeys, modest, calm, conditions, laid).
  DERIVED. THE GIVEN ROWS OF THIS SEAT. 6 by the template 'for every input the law returns true; each argument reads behind the call as it read before'; 0 by the template 'total and deterministic' (their statements: YtggcomepaloneaaTotals.lean).
  GIVEN WITH THE SEED: the statements are not yours to turn. If you find one false, say at which input.
  Laid BY PROGRAM, IN A SANDBOX (cutbox-rows.mjs): the forced cells as the released guide's own fill.sh prints them over the translation 81671148dd116658… (all of the seat's roots in one cut). By AI agents, Wed Nov 11 2026. No macro, syntax, notation, axiom, sorry.
-/
import Derived.Test.YtggcomepaloneaaChecked
import GoSem.Claim
import GoSem.ClaimJoined
import GoSem.ClaimMapViews
import Derived.JoinedTies
import Derived.KernelRfl
namespace Go.Proofs.Ytggcomepaloneaa
/- THE CELL 'sum', in the pinned program and in every row, IS THE sha256 OF THE DUMP (.gsa) THAT YtggcomepaloneaaProg.lean LOADS. Nothing in Lean hashes anything: it is a label: what it is worth is what the hold of that sum in a sandbox is worth. -/
noncomputable def Try.pinned : Pinned := { name := "ytggcomepaloneaa", sum := "81671148dd1166582f94b7e31b5f9dbc04254dac0499ba77f6e101d5ed1d914f", checked := Try.checked }
namespace Rows
def none {H : Type} : Left H := { results := [], args := [] }

/-- 'laws.FnCostDisks': WHATEVER THE INPUT: true; the input reads as it did. -/
def fnCostDisksSpec : ChangeSpec := { name := "fnCostDisks", fn := fun _ => fun
  | [d] => { results := [.lit (.bool true)], args := [d] }
  | _ => none }
def fnCostDisksRow : OpenClaim := { program := "ytggcomepaloneaa", sum := "81671148dd1166582f94b7e31b5f9dbc04254dac0499ba77f6e101d5ed1d914f", func := "loop.example/buttery/laws.FnCostDisks", spec := "fnCostDisks", unfollowed := true, recurses := true, apart := false }
def FnCostDisksSaid : Prop := fnCostDisksRow.holds Try.pinned (OpenSpec.ofChange fnCostDisksSpec)

/-- ITS FALSE NEIGHBOUR: 'it returns false'. Refute it at one input. -/
def fnCostDisksWrong : ChangeSpec := { name := "fnCostDisks", fn := fun _ => fun
  | [d] => { results := [.lit (.bool false)], args := [d] }
  | _ => none }
def FnCostDisksWrongFalsely : Prop := fnCostDisksRow.holds Try.pinned (OpenSpec.ofChange fnCostDisksWrong)

/-- 'laws.FnCostFlush': WHATEVER THE INPUT: true; the input reads as it did. -/
def fnCostFlushSpec : ChangeSpec := { name := "fnCostFlush", fn := fun _ => fun
  | [d] => { results := [.lit (.bool true)], args := [d] }
  | _ => none }
def fnCostFlushRow : OpenClaim := { program := "ytggcomepaloneaa", sum := "81671148dd1166582f94b7e31b5f9dbc04254dac0499ba77f6e101d5ed1d914f", func := "loop.example/buttery/laws.FnCostFlush", spec := "fnCostFlush", unfollowed := true, recurses := true, apart := false }
def FnCostFlushSaid : Prop := fnCostFlushRow.holds Try.pinned (OpenSpec.ofChange fnCostFlushSpec)

/-- ITS FALSE NEIGHBOUR: 'it returns false'. Refute it at one input. -/
def fnCostFlushWrong : ChangeSpec := { name := "fnCostFlush", fn := fun _ => fun
  | [d] => { results := [.lit (.bool false)], args := [d] }
  | _ => none }
def FnCostFlushWrongFalsely : Prop := fnCostFlushRow.holds Try.pinned (OpenSpec.ofChange fnCostFlushWrong)

/-- 'laws.FnCostPuts': WHATEVER THE INPUT: true; the input reads as it did. -/
def fnCostPutsSpec : ChangeSpec := { name := "fnCostPuts", fn := fun _ => fun
  | [d] => { results := [.lit (.bool true)], args := [d] }
  | _ => none }
def fnCostPutsRow : OpenClaim := { program := "ytggcomepaloneaa", sum := "81671148dd1166582f94b7e31b5f9dbc04254dac0499ba77f6e101d5ed1d914f", func := "loop.example/buttery/laws.FnCostPuts", spec := "fnCostPuts", unfollowed := true, recurses := true, apart := false }
def FnCostPutsSaid : Prop := fnCostPutsRow.holds Try.pinned (OpenSpec.ofChange fnCostPutsSpec)

/-- ITS FALSE NEIGHBOUR: 'it returns false'. Refute it at one input. -/
def fnCostPutsWrong : ChangeSpec := { name := "fnCostPuts", fn := fun _ => fun
  | [d] => { results := [.lit (.bool false)], args := [d] }
  | _ => none }
def FnCostPutsWrongFalsely : Prop := fnCostPutsRow.holds Try.pinned (OpenSpec.ofChange fnCostPutsWrong)

/-- 'laws.FnExactCostRun': WHATEVER THE INPUT: true; the input reads as it did. -/
def fnExactCostRunSpec : ChangeSpec := { name := "fnExactCostRun", fn := fun _ => fun
  | [d] => { results := [.lit (.bool true)], args := [d] }
  | _ => none }
def fnExactCostRunRow : OpenClaim := { program := "ytggcomepaloneaa", sum := "81671148dd1166582f94b7e31b5f9dbc04254dac0499ba77f6e101d5ed1d914f", func := "loop.example/buttery/laws.FnExactCostRun", spec := "fnExactCostRun", unfollowed := true, recurses := true, apart := false }
def FnExactCostRunSaid : Prop := fnExactCostRunRow.holds Try.pinned (OpenSpec.ofChange fnExactCostRunSpec)

/-- ITS FALSE NEIGHBOUR: 'it returns false'. Refute it at one input. -/
def fnExactCostRunWrong : ChangeSpec := { name := "fnExactCostRun", fn := fun _ => fun
  | [d] => { results := [.lit (.bool false)], args := [d] }
  | _ => none }
def FnExactCostRunWrongFalsely : Prop := fnExactCostRunRow.holds Try.pinned (OpenSpec.ofChange fnExactCostRunWrong)

/-- 'laws.FnCostRun': WHATEVER THE INPUT: true; the input reads as it did. -/
def fnCostRunSpec : ChangeSpec := { name := "fnCostRun", fn := fun _ => fun
  | [d1, d2] => { results := [.lit (.bool true)], args := [d1, d2] }
  | _ => none }
def fnCostRunRow : OpenClaim := { program := "ytggcomepaloneaa", sum := "81671148dd1166582f94b7e31b5f9dbc04254dac0499ba77f6e101d5ed1d914f", func := "loop.example/buttery/laws.FnCostRun", spec := "fnCostRun", unfollowed := true, recurses := true, apart := false }
def FnCostRunSaid : Prop := fnCostRunRow.holds Try.pinned (OpenSpec.ofChange fnCostRunSpec)

/-- ITS FALSE NEIGHBOUR: 'it returns false'. Refute it at one input. -/
def fnCostRunWrong : ChangeSpec := { name := "fnCostRun", fn := fun _ => fun
  | [d1, d2] => { results := [.lit (.bool false)], args := [d1, d2] }
  | _ => none }
def FnCostRunWrongFalsely : Prop := fnCostRunRow.holds Try.pinned (OpenSpec.ofChange fnCostRunWrong)

/-- 'laws.FnCostCut': WHATEVER THE INPUT: true; the input reads as it did. -/
def fnCostCutSpec : ChangeSpec := { name := "fnCostCut", fn := fun _ => fun
  | [d1, d2] => { results := [.lit (.bool true)], args := [d1, d2] }
  | _ => none }
def fnCostCutRow : OpenClaim := { program := "ytggcomepaloneaa", sum := "81671148dd1166582f94b7e31b5f9dbc04254dac0499ba77f6e101d5ed1d914f", func := "loop.example/buttery/laws.FnCostCut", spec := "fnCostCut", unfollowed := true, recurses := true, apart := false }
def FnCostCutSaid : Prop := fnCostCutRow.holds Try.pinned (OpenSpec.ofChange fnCostCutSpec)

/-- ITS FALSE NEIGHBOUR: 'it returns false'. Refute it at one input. -/
def fnCostCutWrong : ChangeSpec := { name := "fnCostCut", fn := fun _ => fun
  | [d1, d2] => { results := [.lit (.bool false)], args := [d1, d2] }
  | _ => none }
def FnCostCutWrongFalsely : Prop := fnCostCutRow.holds Try.pinned (OpenSpec.ofChange fnCostCutWrong)

/- THE SECOND FORM. 'bulk': how many values and letters a reading holds, each counted each time it is reached (what is shared counts as often as it is met; a slice's spare places count too). A statement '..UptoSaid' is the law's where the arguments, and the package variables that the reading takes, are together of bulk at most 1048576: NARROWER than '..Said'. Prove '..Said' where nothing that the law and all that it calls make is longer than what came in: it says more and counts as full. Else prove '..UptoSaid'. A law counts once. -/
mutual
def uptoBulk {H : Type} : DataW H → Nat
  | .lit (.string bytes) => bytes.length + 1
  | .lit _ => 1
  | .nil => 1
  | .ptr d => uptoBulk d + 1
  | .slice elems spare => uptoBulkAll elems + uptoBulkAll spare + 1
  | .agg parts => uptoBulkAll parts + 1
  | .iface _ d => uptoBulk d + 1
  | .map entries => uptoBulkEntries entries + 1
  | .held _ => 1
def uptoBulkAll {H : Type} : List (DataW H) → Nat
  | [] => 0
  | d :: r => uptoBulk d + uptoBulkAll r
def uptoBulkEntries {H : Type} : List (Lit × DataW H) → Nat
  | [] => 0
  | x :: r => uptoBulkEntry x + uptoBulkEntries r
def uptoBulkEntry {H : Type} : Lit × DataW H → Nat
  | (.string bytes, d) => bytes.length + uptoBulk d + 1
  | (_, d) => uptoBulk d + 1
 end
def uptoSmall : (H : Type) → List (DataW H) → Bool := fun _ ds => decide (uptoBulkAll ds ≤ 1048576)
def OpenSpec.upto (s : _root_.Go.ChangeSpec) : _root_.Go.OpenSpec := { _root_.Go.OpenSpec.ofChange s with cond := some uptoSmall }

/-- 'laws.FnCostDisks', WHERE WHAT IT READS IS OF BULK AT MOST 1048576: true; the input reads as it did. -/
def fnCostDisksUptoRow : OpenClaim := { program := "ytggcomepaloneaa", sum := "81671148dd1166582f94b7e31b5f9dbc04254dac0499ba77f6e101d5ed1d914f", func := "loop.example/buttery/laws.FnCostDisks", spec := "fnCostDisks", unfollowed := true, recurses := true, apart := false, narrowed := true }
def FnCostDisksUptoSaid : Prop := fnCostDisksUptoRow.holds Try.pinned (OpenSpec.upto fnCostDisksSpec)

/-- 'laws.FnCostFlush', WHERE WHAT IT READS IS OF BULK AT MOST 1048576: true; the input reads as it did. -/
def fnCostFlushUptoRow : OpenClaim := { program := "ytggcomepaloneaa", sum := "81671148dd1166582f94b7e31b5f9dbc04254dac0499ba77f6e101d5ed1d914f", func := "loop.example/buttery/laws.FnCostFlush", spec := "fnCostFlush", unfollowed := true, recurses := true, apart := false, narrowed := true }
def FnCostFlushUptoSaid : Prop := fnCostFlushUptoRow.holds Try.pinned (OpenSpec.upto fnCostFlushSpec)

/-- 'laws.FnCostPuts', WHERE WHAT IT READS IS OF BULK AT MOST 1048576: true; the input reads as it did. -/
def fnCostPutsUptoRow : OpenClaim := { program := "ytggcomepaloneaa", sum := "81671148dd1166582f94b7e31b5f9dbc04254dac0499ba77f6e101d5ed1d914f", func := "loop.example/buttery/laws.FnCostPuts", spec := "fnCostPuts", unfollowed := true, recurses := true, apart := false, narrowed := true }
def FnCostPutsUptoSaid : Prop := fnCostPutsUptoRow.holds Try.pinned (OpenSpec.upto fnCostPutsSpec)

/-- 'laws.FnExactCostRun', WHERE WHAT IT READS IS OF BULK AT MOST 1048576: true; the input reads as it did. -/
def fnExactCostRunUptoRow : OpenClaim := { program := "ytggcomepaloneaa", sum := "81671148dd1166582f94b7e31b5f9dbc04254dac0499ba77f6e101d5ed1d914f", func := "loop.example/buttery/laws.FnExactCostRun", spec := "fnExactCostRun", unfollowed := true, recurses := true, apart := false, narrowed := true }
def FnExactCostRunUptoSaid : Prop := fnExactCostRunUptoRow.holds Try.pinned (OpenSpec.upto fnExactCostRunSpec)

/-- 'laws.FnCostRun', WHERE WHAT IT READS IS OF BULK AT MOST 1048576: true; the input reads as it did. -/
def fnCostRunUptoRow : OpenClaim := { program := "ytggcomepaloneaa", sum := "81671148dd1166582f94b7e31b5f9dbc04254dac0499ba77f6e101d5ed1d914f", func := "loop.example/buttery/laws.FnCostRun", spec := "fnCostRun", unfollowed := true, recurses := true, apart := false, narrowed := true }
def FnCostRunUptoSaid : Prop := fnCostRunUptoRow.holds Try.pinned (OpenSpec.upto fnCostRunSpec)

/-- 'laws.FnCostCut', WHERE WHAT IT READS IS OF BULK AT MOST 1048576: true; the input reads as it did. -/
def fnCostCutUptoRow : OpenClaim := { program := "ytggcomepaloneaa", sum := "81671148dd1166582f94b7e31b5f9dbc04254dac0499ba77f6e101d5ed1d914f", func := "loop.example/buttery/laws.FnCostCut", spec := "fnCostCut", unfollowed := true, recurses := true, apart := false, narrowed := true }
def FnCostCutUptoSaid : Prop := fnCostCutUptoRow.holds Try.pinned (OpenSpec.upto fnCostCutSpec)

end Rows
end Go.Proofs.Ytggcomepaloneaa
