/-
  No cell of these rows narrows 'for every input' (looked for: loops, veiled, ifaces, maps, wideKeys, modest, calm, conditions, laid).
  DERIVED. THE GIVEN ROWS OF THIS SEAT. 5 by the template 'for every input the law returns true; each argument reads behind the call as it read before'; 0 by the template 'total and deterministic' (their statements: YtcainddboblpbaaTotals.lean).
  GIVEN WITH THE SEED: the statements are not yours to turn. If you find one false, say at which input.
  Laid BY PROGRAM, IN A SANDBOX (cutbox-rows.mjs): the forced cells as the released guide's own fill.sh prints them over the translation 49a8843b9b4096aa… (all of the seat's roots in one cut). By AI agents, Wed Nov 11 2026. No macro, syntax, notation, axiom, sorry.
-/
import Derived.Test.YtcainddboblpbaaChecked
import GoSem.Claim
import GoSem.ClaimJoined
import GoSem.ClaimMapViews
import Derived.JoinedTies
import Derived.KernelRfl
namespace Go.Proofs.Ytcainddboblpbaa
/- THE CELL 'sum', in the pinned program and in every row, IS THE sha256 OF THE DUMP (.gsa) THAT YtcainddboblpbaaProg.lean LOADS. Nothing in Lean hashes anything: it is a label: what it is worth is what the hold of that sum in a sandbox is worth. -/
noncomputable def Try.pinned : Pinned := { name := "ytcainddboblpbaa", sum := "49a8843b9b4096aa5c3f0e622f13fc4aff29990a20a99fffa075a5c99761abd1", checked := Try.checked }
namespace Rows
def none {H : Type} : Left H := { results := [], args := [] }

/-- 'laws.FnExactPairAll': WHATEVER THE INPUT: true; the input reads as it did. -/
def fnExactPairAllSpec : ChangeSpec := { name := "fnExactPairAll", fn := fun _ => fun
  | [d] => { results := [.lit (.bool true)], args := [d] }
  | _ => none }
def fnExactPairAllRow : OpenClaim := { program := "ytcainddboblpbaa", sum := "49a8843b9b4096aa5c3f0e622f13fc4aff29990a20a99fffa075a5c99761abd1", func := "loop.example/buttery/laws.FnExactPairAll", spec := "fnExactPairAll", unfollowed := true, recurses := true, apart := false }
def FnExactPairAllSaid : Prop := fnExactPairAllRow.holds Try.pinned (OpenSpec.ofChange fnExactPairAllSpec)

/-- ITS FALSE NEIGHBOUR: 'it returns false'. Refute it at one input. -/
def fnExactPairAllWrong : ChangeSpec := { name := "fnExactPairAll", fn := fun _ => fun
  | [d] => { results := [.lit (.bool false)], args := [d] }
  | _ => none }
def FnExactPairAllWrongFalsely : Prop := fnExactPairAllRow.holds Try.pinned (OpenSpec.ofChange fnExactPairAllWrong)

/-- 'laws.FnExactPairLose': WHATEVER THE INPUT: true; the input reads as it did. -/
def fnExactPairLoseSpec : ChangeSpec := { name := "fnExactPairLose", fn := fun _ => fun
  | [d1, d2] => { results := [.lit (.bool true)], args := [d1, d2] }
  | _ => none }
def fnExactPairLoseRow : OpenClaim := { program := "ytcainddboblpbaa", sum := "49a8843b9b4096aa5c3f0e622f13fc4aff29990a20a99fffa075a5c99761abd1", func := "loop.example/buttery/laws.FnExactPairLose", spec := "fnExactPairLose", unfollowed := true, recurses := true, apart := false }
def FnExactPairLoseSaid : Prop := fnExactPairLoseRow.holds Try.pinned (OpenSpec.ofChange fnExactPairLoseSpec)

/-- ITS FALSE NEIGHBOUR: 'it returns false'. Refute it at one input. -/
def fnExactPairLoseWrong : ChangeSpec := { name := "fnExactPairLose", fn := fun _ => fun
  | [d1, d2] => { results := [.lit (.bool false)], args := [d1, d2] }
  | _ => none }
def FnExactPairLoseWrongFalsely : Prop := fnExactPairLoseRow.holds Try.pinned (OpenSpec.ofChange fnExactPairLoseWrong)

/-- 'laws.FnPairAll': WHATEVER THE INPUT: true; the input reads as it did. -/
def fnPairAllSpec : ChangeSpec := { name := "fnPairAll", fn := fun _ => fun
  | [d] => { results := [.lit (.bool true)], args := [d] }
  | _ => none }
def fnPairAllRow : OpenClaim := { program := "ytcainddboblpbaa", sum := "49a8843b9b4096aa5c3f0e622f13fc4aff29990a20a99fffa075a5c99761abd1", func := "loop.example/buttery/laws.FnPairAll", spec := "fnPairAll", unfollowed := true, recurses := true, apart := false }
def FnPairAllSaid : Prop := fnPairAllRow.holds Try.pinned (OpenSpec.ofChange fnPairAllSpec)

/-- ITS FALSE NEIGHBOUR: 'it returns false'. Refute it at one input. -/
def fnPairAllWrong : ChangeSpec := { name := "fnPairAll", fn := fun _ => fun
  | [d] => { results := [.lit (.bool false)], args := [d] }
  | _ => none }
def FnPairAllWrongFalsely : Prop := fnPairAllRow.holds Try.pinned (OpenSpec.ofChange fnPairAllWrong)

/-- 'laws.FnPairOk': WHATEVER THE INPUT: true; the input reads as it did. -/
def fnPairOkSpec : ChangeSpec := { name := "fnPairOk", fn := fun _ => fun
  | [d1, d2] => { results := [.lit (.bool true)], args := [d1, d2] }
  | _ => none }
def fnPairOkRow : OpenClaim := { program := "ytcainddboblpbaa", sum := "49a8843b9b4096aa5c3f0e622f13fc4aff29990a20a99fffa075a5c99761abd1", func := "loop.example/buttery/laws.FnPairOk", spec := "fnPairOk", unfollowed := true, recurses := true, apart := false }
def FnPairOkSaid : Prop := fnPairOkRow.holds Try.pinned (OpenSpec.ofChange fnPairOkSpec)

/-- ITS FALSE NEIGHBOUR: 'it returns false'. Refute it at one input. -/
def fnPairOkWrong : ChangeSpec := { name := "fnPairOk", fn := fun _ => fun
  | [d1, d2] => { results := [.lit (.bool false)], args := [d1, d2] }
  | _ => none }
def FnPairOkWrongFalsely : Prop := fnPairOkRow.holds Try.pinned (OpenSpec.ofChange fnPairOkWrong)

/-- 'laws.FnPairLose': WHATEVER THE INPUT: true; the input reads as it did. -/
def fnPairLoseSpec : ChangeSpec := { name := "fnPairLose", fn := fun _ => fun
  | [d] => { results := [.lit (.bool true)], args := [d] }
  | _ => none }
def fnPairLoseRow : OpenClaim := { program := "ytcainddboblpbaa", sum := "49a8843b9b4096aa5c3f0e622f13fc4aff29990a20a99fffa075a5c99761abd1", func := "loop.example/buttery/laws.FnPairLose", spec := "fnPairLose", unfollowed := true, recurses := true, apart := false }
def FnPairLoseSaid : Prop := fnPairLoseRow.holds Try.pinned (OpenSpec.ofChange fnPairLoseSpec)

/-- ITS FALSE NEIGHBOUR: 'it returns false'. Refute it at one input. -/
def fnPairLoseWrong : ChangeSpec := { name := "fnPairLose", fn := fun _ => fun
  | [d] => { results := [.lit (.bool false)], args := [d] }
  | _ => none }
def FnPairLoseWrongFalsely : Prop := fnPairLoseRow.holds Try.pinned (OpenSpec.ofChange fnPairLoseWrong)

/- THE SECOND FORM. 'bulk': how many values and letters a reading holds, each counted each time it is reached (what is shared counts as often as it is met; a slice's spare places count too). A statement '..UptoSaid' is the law's where the arguments, and the package variables that the reading takes, are together of bulk at most 1048576: NARROWER than '..Said'. Prove '..Said' where nothing that the law and all that it calls make is longer than what came in: it says more and counts as full. Else prove '..UptoSaid'. A law counts once. -/
mutual
def uptoBulk {H : Type} : DataW H → Nat
  | .lit (.string bytes) => bytes.length + 1
  | .lit _ => 1
  | .nil => 1
  | .ptr d => uptoBulk d + 1
  | .slice elems spare => uptoBulkAll elems + uptoBulkAll spare + 1
  | .agg parts => uptoBulkAll parts + 1
  | .iface _ d => uptoBulk d + 1
  | .map entries => uptoBulkEntries entries + 1
  | .held _ => 1
def uptoBulkAll {H : Type} : List (DataW H) → Nat
  | [] => 0
  | d :: r => uptoBulk d + uptoBulkAll r
def uptoBulkEntries {H : Type} : List (Lit × DataW H) → Nat
  | [] => 0
  | x :: r => uptoBulkEntry x + uptoBulkEntries r
def uptoBulkEntry {H : Type} : Lit × DataW H → Nat
  | (.string bytes, d) => bytes.length + uptoBulk d + 1
  | (_, d) => uptoBulk d + 1
 end
def uptoSmall : (H : Type) → List (DataW H) → Bool := fun _ ds => decide (uptoBulkAll ds ≤ 1048576)
def OpenSpec.upto (s : _root_.Go.ChangeSpec) : _root_.Go.OpenSpec := { _root_.Go.OpenSpec.ofChange s with cond := some uptoSmall }

/-- 'laws.FnExactPairAll', WHERE WHAT IT READS IS OF BULK AT MOST 1048576: true; the input reads as it did. -/
def fnExactPairAllUptoRow : OpenClaim := { program := "ytcainddboblpbaa", sum := "49a8843b9b4096aa5c3f0e622f13fc4aff29990a20a99fffa075a5c99761abd1", func := "loop.example/buttery/laws.FnExactPairAll", spec := "fnExactPairAll", unfollowed := true, recurses := true, apart := false, narrowed := true }
def FnExactPairAllUptoSaid : Prop := fnExactPairAllUptoRow.holds Try.pinned (OpenSpec.upto fnExactPairAllSpec)

/-- 'laws.FnExactPairLose', WHERE WHAT IT READS IS OF BULK AT MOST 1048576: true; the input reads as it did. -/
def fnExactPairLoseUptoRow : OpenClaim := { program := "ytcainddboblpbaa", sum := "49a8843b9b4096aa5c3f0e622f13fc4aff29990a20a99fffa075a5c99761abd1", func := "loop.example/buttery/laws.FnExactPairLose", spec := "fnExactPairLose", unfollowed := true, recurses := true, apart := false, narrowed := true }
def FnExactPairLoseUptoSaid : Prop := fnExactPairLoseUptoRow.holds Try.pinned (OpenSpec.upto fnExactPairLoseSpec)

/-- 'laws.FnPairAll', WHERE WHAT IT READS IS OF BULK AT MOST 1048576: true; the input reads as it did. -/
def fnPairAllUptoRow : OpenClaim := { program := "ytcainddboblpbaa", sum := "49a8843b9b4096aa5c3f0e622f13fc4aff29990a20a99fffa075a5c99761abd1", func := "loop.example/buttery/laws.FnPairAll", spec := "fnPairAll", unfollowed := true, recurses := true, apart := false, narrowed := true }
def FnPairAllUptoSaid : Prop := fnPairAllUptoRow.holds Try.pinned (OpenSpec.upto fnPairAllSpec)

/-- 'laws.FnPairOk', WHERE WHAT IT READS IS OF BULK AT MOST 1048576: true; the input reads as it did. -/
def fnPairOkUptoRow : OpenClaim := { program := "ytcainddboblpbaa", sum := "49a8843b9b4096aa5c3f0e622f13fc4aff29990a20a99fffa075a5c99761abd1", func := "loop.example/buttery/laws.FnPairOk", spec := "fnPairOk", unfollowed := true, recurses := true, apart := false, narrowed := true }
def FnPairOkUptoSaid : Prop := fnPairOkUptoRow.holds Try.pinned (OpenSpec.upto fnPairOkSpec)

/-- 'laws.FnPairLose', WHERE WHAT IT READS IS OF BULK AT MOST 1048576: true; the input reads as it did. -/
def fnPairLoseUptoRow : OpenClaim := { program := "ytcainddboblpbaa", sum := "49a8843b9b4096aa5c3f0e622f13fc4aff29990a20a99fffa075a5c99761abd1", func := "loop.example/buttery/laws.FnPairLose", spec := "fnPairLose", unfollowed := true, recurses := true, apart := false, narrowed := true }
def FnPairLoseUptoSaid : Prop := fnPairLoseUptoRow.holds Try.pinned (OpenSpec.upto fnPairLoseSpec)

end Rows
end Go.Proofs.Ytcainddboblpbaa
