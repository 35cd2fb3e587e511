/-
  No cell of these rows narrows 'for every input' (looked for: loops, veiled, ifaces, maps, wideKeys, modest, calm, conditions, laid).
  DERIVED. THE GIVEN ROWS OF THIS SEAT. 7 by the template 'for every input the law returns true; each argument reads behind the call as it read before'; 0 by the template 'total and deterministic' (their statements: YtcainddboblpbaaGreatTotals.lean).
  GIVEN WITH THE SEED: the statements are not yours to turn. If you find one false, say at which input.
  Laid BY PROGRAM, IN A SANDBOX (cutbox-rows.mjs): the forced cells as the released guide's own fill.sh prints them over the translation bd57b7ebe6b7fb9b… (all of the seat's roots in one cut). By AI agents, Wed Nov 11 2026. No macro, syntax, notation, axiom, sorry.
-/
import Derived.Test.YtcainddboblpbaaGreatChecked
import GoSem.Claim
import GoSem.ClaimJoined
import GoSem.ClaimMapViews
import Derived.JoinedTies
import Derived.KernelRfl
namespace Go.Proofs.YtcainddboblpbaaGreat
/- THE CELL 'sum', in the pinned program and in every row, IS THE sha256 OF THE DUMP (.gsa) THAT YtcainddboblpbaaGreatProg.lean LOADS. Nothing in Lean hashes anything: it is a label: what it is worth is what the hold of that sum in a sandbox is worth. -/
noncomputable def Tryz.pinned : Pinned := { name := "ytcainddboblpbaagreat", sum := "bd57b7ebe6b7fb9be8214d38f43f84eb5a22cff386a14f880854430fb57a53ff", checked := Tryz.checked }
namespace Rows
def none {H : Type} : Left H := { results := [], args := [] }

/-- 'laws.FnPairNone': WHATEVER THE INPUT: true; the input reads as it did. -/
def fnPairNoneSpec : ChangeSpec := { name := "fnPairNone", fn := fun _ => fun
  | [d] => { results := [.lit (.bool true)], args := [d] }
  | _ => none }
def fnPairNoneRow : OpenClaim := { program := "ytcainddboblpbaagreat", sum := "bd57b7ebe6b7fb9be8214d38f43f84eb5a22cff386a14f880854430fb57a53ff", func := "loop.example/buttery/laws.FnPairNone", spec := "fnPairNone", unfollowed := true, recurses := true, apart := false }
def FnPairNoneSaid : Prop := fnPairNoneRow.holds Tryz.pinned (OpenSpec.ofChange fnPairNoneSpec)

/-- ITS FALSE NEIGHBOUR: 'it returns false'. Refute it at one input. -/
def fnPairNoneWrong : ChangeSpec := { name := "fnPairNone", fn := fun _ => fun
  | [d] => { results := [.lit (.bool false)], args := [d] }
  | _ => none }
def FnPairNoneWrongFalsely : Prop := fnPairNoneRow.holds Tryz.pinned (OpenSpec.ofChange fnPairNoneWrong)

/-- 'laws.FnPairSteps': WHATEVER THE INPUT: true; the input reads as it did. -/
def fnPairStepsSpec : ChangeSpec := { name := "fnPairSteps", fn := fun _ => fun
  | [d] => { results := [.lit (.bool true)], args := [d] }
  | _ => none }
def fnPairStepsRow : OpenClaim := { program := "ytcainddboblpbaagreat", sum := "bd57b7ebe6b7fb9be8214d38f43f84eb5a22cff386a14f880854430fb57a53ff", func := "loop.example/buttery/laws.FnPairSteps", spec := "fnPairSteps", unfollowed := true, recurses := true, apart := false }
def FnPairStepsSaid : Prop := fnPairStepsRow.holds Tryz.pinned (OpenSpec.ofChange fnPairStepsSpec)

/-- ITS FALSE NEIGHBOUR: 'it returns false'. Refute it at one input. -/
def fnPairStepsWrong : ChangeSpec := { name := "fnPairSteps", fn := fun _ => fun
  | [d] => { results := [.lit (.bool false)], args := [d] }
  | _ => none }
def FnPairStepsWrongFalsely : Prop := fnPairStepsRow.holds Tryz.pinned (OpenSpec.ofChange fnPairStepsWrong)

/-- 'laws.FnPairPut': WHATEVER THE INPUT: true; the input reads as it did. -/
def fnPairPutSpec : ChangeSpec := { name := "fnPairPut", fn := fun _ => fun
  | [d] => { results := [.lit (.bool true)], args := [d] }
  | _ => none }
def fnPairPutRow : OpenClaim := { program := "ytcainddboblpbaagreat", sum := "bd57b7ebe6b7fb9be8214d38f43f84eb5a22cff386a14f880854430fb57a53ff", func := "loop.example/buttery/laws.FnPairPut", spec := "fnPairPut", unfollowed := true, recurses := true, apart := false }
def FnPairPutSaid : Prop := fnPairPutRow.holds Tryz.pinned (OpenSpec.ofChange fnPairPutSpec)

/-- ITS FALSE NEIGHBOUR: 'it returns false'. Refute it at one input. -/
def fnPairPutWrong : ChangeSpec := { name := "fnPairPut", fn := fun _ => fun
  | [d] => { results := [.lit (.bool false)], args := [d] }
  | _ => none }
def FnPairPutWrongFalsely : Prop := fnPairPutRow.holds Tryz.pinned (OpenSpec.ofChange fnPairPutWrong)

/-- 'laws.FnPairLost': WHATEVER THE INPUT: true; the input reads as it did. -/
def fnPairLostSpec : ChangeSpec := { name := "fnPairLost", fn := fun _ => fun
  | [d1, d2] => { results := [.lit (.bool true)], args := [d1, d2] }
  | _ => none }
def fnPairLostRow : OpenClaim := { program := "ytcainddboblpbaagreat", sum := "bd57b7ebe6b7fb9be8214d38f43f84eb5a22cff386a14f880854430fb57a53ff", func := "loop.example/buttery/laws.FnPairLost", spec := "fnPairLost", unfollowed := true, recurses := true, apart := false }
def FnPairLostSaid : Prop := fnPairLostRow.holds Tryz.pinned (OpenSpec.ofChange fnPairLostSpec)

/-- ITS FALSE NEIGHBOUR: 'it returns false'. Refute it at one input. -/
def fnPairLostWrong : ChangeSpec := { name := "fnPairLost", fn := fun _ => fun
  | [d1, d2] => { results := [.lit (.bool false)], args := [d1, d2] }
  | _ => none }
def FnPairLostWrongFalsely : Prop := fnPairLostRow.holds Tryz.pinned (OpenSpec.ofChange fnPairLostWrong)

/-- 'laws.FnExactPairPut': WHATEVER THE INPUT: true; the input reads as it did. -/
def fnExactPairPutSpec : ChangeSpec := { name := "fnExactPairPut", fn := fun _ => fun
  | [d1, d2, d3, d4, d5] => { results := [.lit (.bool true)], args := [d1, d2, d3, d4, d5] }
  | _ => none }
def fnExactPairPutRow : OpenClaim := { program := "ytcainddboblpbaagreat", sum := "bd57b7ebe6b7fb9be8214d38f43f84eb5a22cff386a14f880854430fb57a53ff", func := "loop.example/buttery/laws.FnExactPairPut", spec := "fnExactPairPut", unfollowed := true, recurses := true, apart := false }
def FnExactPairPutSaid : Prop := fnExactPairPutRow.holds Tryz.pinned (OpenSpec.ofChange fnExactPairPutSpec)

/-- ITS FALSE NEIGHBOUR: 'it returns false'. Refute it at one input. -/
def fnExactPairPutWrong : ChangeSpec := { name := "fnExactPairPut", fn := fun _ => fun
  | [d1, d2, d3, d4, d5] => { results := [.lit (.bool false)], args := [d1, d2, d3, d4, d5] }
  | _ => none }
def FnExactPairPutWrongFalsely : Prop := fnExactPairPutRow.holds Tryz.pinned (OpenSpec.ofChange fnExactPairPutWrong)

/-- 'laws.FnPairMendNot': WHATEVER THE INPUT: true; the input reads as it did. -/
def fnPairMendNotSpec : ChangeSpec := { name := "fnPairMendNot", fn := fun _ => fun
  | [d] => { results := [.lit (.bool true)], args := [d] }
  | _ => none }
def fnPairMendNotRow : OpenClaim := { program := "ytcainddboblpbaagreat", sum := "bd57b7ebe6b7fb9be8214d38f43f84eb5a22cff386a14f880854430fb57a53ff", func := "loop.example/buttery/laws.FnPairMendNot", spec := "fnPairMendNot", unfollowed := true, recurses := true, apart := false }
def FnPairMendNotSaid : Prop := fnPairMendNotRow.holds Tryz.pinned (OpenSpec.ofChange fnPairMendNotSpec)

/-- ITS FALSE NEIGHBOUR: 'it returns false'. Refute it at one input. -/
def fnPairMendNotWrong : ChangeSpec := { name := "fnPairMendNot", fn := fun _ => fun
  | [d] => { results := [.lit (.bool false)], args := [d] }
  | _ => none }
def FnPairMendNotWrongFalsely : Prop := fnPairMendNotRow.holds Tryz.pinned (OpenSpec.ofChange fnPairMendNotWrong)

/-- 'laws.FnPairCut': WHATEVER THE INPUT: true; the input reads as it did. -/
def fnPairCutSpec : ChangeSpec := { name := "fnPairCut", fn := fun _ => fun
  | [d] => { results := [.lit (.bool true)], args := [d] }
  | _ => none }
def fnPairCutRow : OpenClaim := { program := "ytcainddboblpbaagreat", sum := "bd57b7ebe6b7fb9be8214d38f43f84eb5a22cff386a14f880854430fb57a53ff", func := "loop.example/buttery/laws.FnPairCut", spec := "fnPairCut", unfollowed := true, recurses := true, apart := false }
def FnPairCutSaid : Prop := fnPairCutRow.holds Tryz.pinned (OpenSpec.ofChange fnPairCutSpec)

/-- ITS FALSE NEIGHBOUR: 'it returns false'. Refute it at one input. -/
def fnPairCutWrong : ChangeSpec := { name := "fnPairCut", fn := fun _ => fun
  | [d] => { results := [.lit (.bool false)], args := [d] }
  | _ => none }
def FnPairCutWrongFalsely : Prop := fnPairCutRow.holds Tryz.pinned (OpenSpec.ofChange fnPairCutWrong)

/- THE SECOND FORM. 'bulk': how many values and letters a reading holds, each counted each time it is reached (what is shared counts as often as it is met; a slice's spare places count too). A statement '..UptoSaid' is the law's where the arguments, and the package variables that the reading takes, are together of bulk at most 1048576: NARROWER than '..Said'. Prove '..Said' where nothing that the law and all that it calls make is longer than what came in: it says more and counts as full. Else prove '..UptoSaid'. A law counts once. -/
mutual
def uptoBulk {H : Type} : DataW H → Nat
  | .lit (.string bytes) => bytes.length + 1
  | .lit _ => 1
  | .nil => 1
  | .ptr d => uptoBulk d + 1
  | .slice elems spare => uptoBulkAll elems + uptoBulkAll spare + 1
  | .agg parts => uptoBulkAll parts + 1
  | .iface _ d => uptoBulk d + 1
  | .map entries => uptoBulkEntries entries + 1
  | .held _ => 1
def uptoBulkAll {H : Type} : List (DataW H) → Nat
  | [] => 0
  | d :: r => uptoBulk d + uptoBulkAll r
def uptoBulkEntries {H : Type} : List (Lit × DataW H) → Nat
  | [] => 0
  | x :: r => uptoBulkEntry x + uptoBulkEntries r
def uptoBulkEntry {H : Type} : Lit × DataW H → Nat
  | (.string bytes, d) => bytes.length + uptoBulk d + 1
  | (_, d) => uptoBulk d + 1
 end
def uptoSmall : (H : Type) → List (DataW H) → Bool := fun _ ds => decide (uptoBulkAll ds ≤ 1048576)
def OpenSpec.upto (s : _root_.Go.ChangeSpec) : _root_.Go.OpenSpec := { _root_.Go.OpenSpec.ofChange s with cond := some uptoSmall }

/-- 'laws.FnPairNone', WHERE WHAT IT READS IS OF BULK AT MOST 1048576: true; the input reads as it did. -/
def fnPairNoneUptoRow : OpenClaim := { program := "ytcainddboblpbaagreat", sum := "bd57b7ebe6b7fb9be8214d38f43f84eb5a22cff386a14f880854430fb57a53ff", func := "loop.example/buttery/laws.FnPairNone", spec := "fnPairNone", unfollowed := true, recurses := true, apart := false, narrowed := true }
def FnPairNoneUptoSaid : Prop := fnPairNoneUptoRow.holds Tryz.pinned (OpenSpec.upto fnPairNoneSpec)

/-- 'laws.FnPairSteps', WHERE WHAT IT READS IS OF BULK AT MOST 1048576: true; the input reads as it did. -/
def fnPairStepsUptoRow : OpenClaim := { program := "ytcainddboblpbaagreat", sum := "bd57b7ebe6b7fb9be8214d38f43f84eb5a22cff386a14f880854430fb57a53ff", func := "loop.example/buttery/laws.FnPairSteps", spec := "fnPairSteps", unfollowed := true, recurses := true, apart := false, narrowed := true }
def FnPairStepsUptoSaid : Prop := fnPairStepsUptoRow.holds Tryz.pinned (OpenSpec.upto fnPairStepsSpec)

/-- 'laws.FnPairPut', WHERE WHAT IT READS IS OF BULK AT MOST 1048576: true; the input reads as it did. -/
def fnPairPutUptoRow : OpenClaim := { program := "ytcainddboblpbaagreat", sum := "bd57b7ebe6b7fb9be8214d38f43f84eb5a22cff386a14f880854430fb57a53ff", func := "loop.example/buttery/laws.FnPairPut", spec := "fnPairPut", unfollowed := true, recurses := true, apart := false, narrowed := true }
def FnPairPutUptoSaid : Prop := fnPairPutUptoRow.holds Tryz.pinned (OpenSpec.upto fnPairPutSpec)

/-- 'laws.FnPairLost', WHERE WHAT IT READS IS OF BULK AT MOST 1048576: true; the input reads as it did. -/
def fnPairLostUptoRow : OpenClaim := { program := "ytcainddboblpbaagreat", sum := "bd57b7ebe6b7fb9be8214d38f43f84eb5a22cff386a14f880854430fb57a53ff", func := "loop.example/buttery/laws.FnPairLost", spec := "fnPairLost", unfollowed := true, recurses := true, apart := false, narrowed := true }
def FnPairLostUptoSaid : Prop := fnPairLostUptoRow.holds Tryz.pinned (OpenSpec.upto fnPairLostSpec)

/-- 'laws.FnExactPairPut', WHERE WHAT IT READS IS OF BULK AT MOST 1048576: true; the input reads as it did. -/
def fnExactPairPutUptoRow : OpenClaim := { program := "ytcainddboblpbaagreat", sum := "bd57b7ebe6b7fb9be8214d38f43f84eb5a22cff386a14f880854430fb57a53ff", func := "loop.example/buttery/laws.FnExactPairPut", spec := "fnExactPairPut", unfollowed := true, recurses := true, apart := false, narrowed := true }
def FnExactPairPutUptoSaid : Prop := fnExactPairPutUptoRow.holds Tryz.pinned (OpenSpec.upto fnExactPairPutSpec)

/-- 'laws.FnPairMendNot', WHERE WHAT IT READS IS OF BULK AT MOST 1048576: true; the input reads as it did. -/
def fnPairMendNotUptoRow : OpenClaim := { program := "ytcainddboblpbaagreat", sum := "bd57b7ebe6b7fb9be8214d38f43f84eb5a22cff386a14f880854430fb57a53ff", func := "loop.example/buttery/laws.FnPairMendNot", spec := "fnPairMendNot", unfollowed := true, recurses := true, apart := false, narrowed := true }
def FnPairMendNotUptoSaid : Prop := fnPairMendNotUptoRow.holds Tryz.pinned (OpenSpec.upto fnPairMendNotSpec)

/-- 'laws.FnPairCut', WHERE WHAT IT READS IS OF BULK AT MOST 1048576: true; the input reads as it did. -/
def fnPairCutUptoRow : OpenClaim := { program := "ytcainddboblpbaagreat", sum := "bd57b7ebe6b7fb9be8214d38f43f84eb5a22cff386a14f880854430fb57a53ff", func := "loop.example/buttery/laws.FnPairCut", spec := "fnPairCut", unfollowed := true, recurses := true, apart := false, narrowed := true }
def FnPairCutUptoSaid : Prop := fnPairCutUptoRow.holds Tryz.pinned (OpenSpec.upto fnPairCutSpec)

end Rows
end Go.Proofs.YtcainddboblpbaaGreat
