/-
  No cell of these rows narrows 'for every input' (looked for: loops, veiled, ifaces, maps, wideKeys, modest, calm, conditions, laid).
  DERIVED. THE GIVEN ROWS OF THIS SEAT. 6 by the template 'for every input the law returns true; each argument reads behind the call as it read before'; 0 by the template 'total and deterministic' (their statements: YtcgedfahgldkoaaTotals.lean).
  GIVEN WITH THE SEED: the statements are not yours to turn. If you find one false, say at which input.
  Laid BY PROGRAM, IN A SANDBOX (cutbox-rows.mjs): the forced cells as the released guide's own fill.sh prints them over the translation f2c742834146f960… (all of the seat's roots in one cut). By AI agents, Wed Nov 11 2026. No macro, syntax, notation, axiom, sorry.
-/
import Derived.Test.YtcgedfahgldkoaaChecked
import GoSem.Claim
import GoSem.ClaimJoined
import GoSem.ClaimMapViews
import Derived.JoinedTies
import Derived.KernelRfl
namespace Go.Proofs.Ytcgedfahgldkoaa
/- THE CELL 'sum', in the pinned program and in every row, IS THE sha256 OF THE DUMP (.gsa) THAT YtcgedfahgldkoaaProg.lean LOADS. Nothing in Lean hashes anything: it is a label: what it is worth is what the hold of that sum in a sandbox is worth. -/
noncomputable def Try.pinned : Pinned := { name := "ytcgedfahgldkoaa", sum := "f2c742834146f960dd45d55482276e73a72d3d1e3df39a6d1c144c273217d1fb", checked := Try.checked }
namespace Rows
def none {H : Type} : Left H := { results := [], args := [] }

/-- 'laws.FnExactCostAdd': WHATEVER THE INPUT: true; the input reads as it did. -/
def fnExactCostAddSpec : ChangeSpec := { name := "fnExactCostAdd", fn := fun _ => fun
  | [d1, d2] => { results := [.lit (.bool true)], args := [d1, d2] }
  | _ => none }
def fnExactCostAddRow : OpenClaim := { program := "ytcgedfahgldkoaa", sum := "f2c742834146f960dd45d55482276e73a72d3d1e3df39a6d1c144c273217d1fb", func := "loop.example/buttery/laws.FnExactCostAdd", spec := "fnExactCostAdd", apart := false }
def FnExactCostAddSaid : Prop := fnExactCostAddRow.holds Try.pinned (OpenSpec.ofChange fnExactCostAddSpec)

/-- ITS FALSE NEIGHBOUR: 'it returns false'. Refute it at one input. -/
def fnExactCostAddWrong : ChangeSpec := { name := "fnExactCostAdd", fn := fun _ => fun
  | [d1, d2] => { results := [.lit (.bool false)], args := [d1, d2] }
  | _ => none }
def FnExactCostAddWrongFalsely : Prop := fnExactCostAddRow.holds Try.pinned (OpenSpec.ofChange fnExactCostAddWrong)

/-- 'laws.FnCostAdd': WHATEVER THE INPUT: true; the input reads as it did. -/
def fnCostAddSpec : ChangeSpec := { name := "fnCostAdd", fn := fun _ => fun
  | [d] => { results := [.lit (.bool true)], args := [d] }
  | _ => none }
def fnCostAddRow : OpenClaim := { program := "ytcgedfahgldkoaa", sum := "f2c742834146f960dd45d55482276e73a72d3d1e3df39a6d1c144c273217d1fb", func := "loop.example/buttery/laws.FnCostAdd", spec := "fnCostAdd", apart := false }
def FnCostAddSaid : Prop := fnCostAddRow.holds Try.pinned (OpenSpec.ofChange fnCostAddSpec)

/-- ITS FALSE NEIGHBOUR: 'it returns false'. Refute it at one input. -/
def fnCostAddWrong : ChangeSpec := { name := "fnCostAdd", fn := fun _ => fun
  | [d] => { results := [.lit (.bool false)], args := [d] }
  | _ => none }
def FnCostAddWrongFalsely : Prop := fnCostAddRow.holds Try.pinned (OpenSpec.ofChange fnCostAddWrong)

/-- 'laws.FnExactCostOf': WHATEVER THE INPUT: true; the input reads as it did. -/
def fnExactCostOfSpec : ChangeSpec := { name := "fnExactCostOf", fn := fun _ => fun
  | [d] => { results := [.lit (.bool true)], args := [d] }
  | _ => none }
def fnExactCostOfRow : OpenClaim := { program := "ytcgedfahgldkoaa", sum := "f2c742834146f960dd45d55482276e73a72d3d1e3df39a6d1c144c273217d1fb", func := "loop.example/buttery/laws.FnExactCostOf", spec := "fnExactCostOf", apart := false }
def FnExactCostOfSaid : Prop := fnExactCostOfRow.holds Try.pinned (OpenSpec.ofChange fnExactCostOfSpec)

/-- ITS FALSE NEIGHBOUR: 'it returns false'. Refute it at one input. -/
def fnExactCostOfWrong : ChangeSpec := { name := "fnExactCostOf", fn := fun _ => fun
  | [d] => { results := [.lit (.bool false)], args := [d] }
  | _ => none }
def FnExactCostOfWrongFalsely : Prop := fnExactCostOfRow.holds Try.pinned (OpenSpec.ofChange fnExactCostOfWrong)

/-- 'laws.FnExactPairNew': WHATEVER THE INPUT: true; the input reads as it did. -/
def fnExactPairNewSpec : ChangeSpec := { name := "fnExactPairNew", fn := fun _ => fun
  | [] => { results := [.lit (.bool true)], args := [] }
  | _ => none }
def fnExactPairNewRow : OpenClaim := { program := "ytcgedfahgldkoaa", sum := "f2c742834146f960dd45d55482276e73a72d3d1e3df39a6d1c144c273217d1fb", func := "loop.example/buttery/laws.FnExactPairNew", spec := "fnExactPairNew", apart := false }
def FnExactPairNewSaid : Prop := fnExactPairNewRow.holds Try.pinned (OpenSpec.ofChange fnExactPairNewSpec)

/-- ITS FALSE NEIGHBOUR: 'it returns false'. Refute it at one input. -/
def fnExactPairNewWrong : ChangeSpec := { name := "fnExactPairNew", fn := fun _ => fun
  | [] => { results := [.lit (.bool false)], args := [] }
  | _ => none }
def FnExactPairNewWrongFalsely : Prop := fnExactPairNewRow.holds Try.pinned (OpenSpec.ofChange fnExactPairNewWrong)

/-- 'laws.FnCostOf': WHATEVER THE INPUT: true; the input reads as it did. -/
def fnCostOfSpec : ChangeSpec := { name := "fnCostOf", fn := fun _ => fun
  | [d1, d2] => { results := [.lit (.bool true)], args := [d1, d2] }
  | _ => none }
def fnCostOfRow : OpenClaim := { program := "ytcgedfahgldkoaa", sum := "f2c742834146f960dd45d55482276e73a72d3d1e3df39a6d1c144c273217d1fb", func := "loop.example/buttery/laws.FnCostOf", spec := "fnCostOf", apart := false }
def FnCostOfSaid : Prop := fnCostOfRow.holds Try.pinned (OpenSpec.ofChange fnCostOfSpec)

/-- ITS FALSE NEIGHBOUR: 'it returns false'. Refute it at one input. -/
def fnCostOfWrong : ChangeSpec := { name := "fnCostOf", fn := fun _ => fun
  | [d1, d2] => { results := [.lit (.bool false)], args := [d1, d2] }
  | _ => none }
def FnCostOfWrongFalsely : Prop := fnCostOfRow.holds Try.pinned (OpenSpec.ofChange fnCostOfWrong)

/-- 'laws.FnExactPairOk': WHATEVER THE INPUT: true; the input reads as it did. -/
def fnExactPairOkSpec : ChangeSpec := { name := "fnExactPairOk", fn := fun _ => fun
  | [d] => { results := [.lit (.bool true)], args := [d] }
  | _ => none }
def fnExactPairOkRow : OpenClaim := { program := "ytcgedfahgldkoaa", sum := "f2c742834146f960dd45d55482276e73a72d3d1e3df39a6d1c144c273217d1fb", func := "loop.example/buttery/laws.FnExactPairOk", spec := "fnExactPairOk", unfollowed := true, recurses := true, apart := false }
def FnExactPairOkSaid : Prop := fnExactPairOkRow.holds Try.pinned (OpenSpec.ofChange fnExactPairOkSpec)

/-- ITS FALSE NEIGHBOUR: 'it returns false'. Refute it at one input. -/
def fnExactPairOkWrong : ChangeSpec := { name := "fnExactPairOk", fn := fun _ => fun
  | [d] => { results := [.lit (.bool false)], args := [d] }
  | _ => none }
def FnExactPairOkWrongFalsely : Prop := fnExactPairOkRow.holds Try.pinned (OpenSpec.ofChange fnExactPairOkWrong)

/- THE SECOND FORM. 'bulk': how many values and letters a reading holds, each counted each time it is reached (what is shared counts as often as it is met; a slice's spare places count too). A statement '..UptoSaid' is the law's where the arguments, and the package variables that the reading takes, are together of bulk at most 1048576: NARROWER than '..Said'. Prove '..Said' where nothing that the law and all that it calls make is longer than what came in: it says more and counts as full. Else prove '..UptoSaid'. A law counts once. -/
mutual
def uptoBulk {H : Type} : DataW H → Nat
  | .lit (.string bytes) => bytes.length + 1
  | .lit _ => 1
  | .nil => 1
  | .ptr d => uptoBulk d + 1
  | .slice elems spare => uptoBulkAll elems + uptoBulkAll spare + 1
  | .agg parts => uptoBulkAll parts + 1
  | .iface _ d => uptoBulk d + 1
  | .map entries => uptoBulkEntries entries + 1
  | .held _ => 1
def uptoBulkAll {H : Type} : List (DataW H) → Nat
  | [] => 0
  | d :: r => uptoBulk d + uptoBulkAll r
def uptoBulkEntries {H : Type} : List (Lit × DataW H) → Nat
  | [] => 0
  | x :: r => uptoBulkEntry x + uptoBulkEntries r
def uptoBulkEntry {H : Type} : Lit × DataW H → Nat
  | (.string bytes, d) => bytes.length + uptoBulk d + 1
  | (_, d) => uptoBulk d + 1
 end
def uptoSmall : (H : Type) → List (DataW H) → Bool := fun _ ds => decide (uptoBulkAll ds ≤ 1048576)
def OpenSpec.upto (s : _root_.Go.ChangeSpec) : _root_.Go.OpenSpec := { _root_.Go.OpenSpec.ofChange s with cond := some uptoSmall }

/-- 'laws.FnExactCostAdd', WHERE WHAT IT READS IS OF BULK AT MOST 1048576: true; the input reads as it did. -/
def fnExactCostAddUptoRow : OpenClaim := { program := "ytcgedfahgldkoaa", sum := "f2c742834146f960dd45d55482276e73a72d3d1e3df39a6d1c144c273217d1fb", func := "loop.example/buttery/laws.FnExactCostAdd", spec := "fnExactCostAdd", apart := false, narrowed := true }
def FnExactCostAddUptoSaid : Prop := fnExactCostAddUptoRow.holds Try.pinned (OpenSpec.upto fnExactCostAddSpec)

/-- 'laws.FnCostAdd', WHERE WHAT IT READS IS OF BULK AT MOST 1048576: true; the input reads as it did. -/
def fnCostAddUptoRow : OpenClaim := { program := "ytcgedfahgldkoaa", sum := "f2c742834146f960dd45d55482276e73a72d3d1e3df39a6d1c144c273217d1fb", func := "loop.example/buttery/laws.FnCostAdd", spec := "fnCostAdd", apart := false, narrowed := true }
def FnCostAddUptoSaid : Prop := fnCostAddUptoRow.holds Try.pinned (OpenSpec.upto fnCostAddSpec)

/-- 'laws.FnExactCostOf', WHERE WHAT IT READS IS OF BULK AT MOST 1048576: true; the input reads as it did. -/
def fnExactCostOfUptoRow : OpenClaim := { program := "ytcgedfahgldkoaa", sum := "f2c742834146f960dd45d55482276e73a72d3d1e3df39a6d1c144c273217d1fb", func := "loop.example/buttery/laws.FnExactCostOf", spec := "fnExactCostOf", apart := false, narrowed := true }
def FnExactCostOfUptoSaid : Prop := fnExactCostOfUptoRow.holds Try.pinned (OpenSpec.upto fnExactCostOfSpec)

/-- 'laws.FnExactPairNew', WHERE WHAT IT READS IS OF BULK AT MOST 1048576: true; the input reads as it did. -/
def fnExactPairNewUptoRow : OpenClaim := { program := "ytcgedfahgldkoaa", sum := "f2c742834146f960dd45d55482276e73a72d3d1e3df39a6d1c144c273217d1fb", func := "loop.example/buttery/laws.FnExactPairNew", spec := "fnExactPairNew", apart := false, narrowed := true }
def FnExactPairNewUptoSaid : Prop := fnExactPairNewUptoRow.holds Try.pinned (OpenSpec.upto fnExactPairNewSpec)

/-- 'laws.FnCostOf', WHERE WHAT IT READS IS OF BULK AT MOST 1048576: true; the input reads as it did. -/
def fnCostOfUptoRow : OpenClaim := { program := "ytcgedfahgldkoaa", sum := "f2c742834146f960dd45d55482276e73a72d3d1e3df39a6d1c144c273217d1fb", func := "loop.example/buttery/laws.FnCostOf", spec := "fnCostOf", apart := false, narrowed := true }
def FnCostOfUptoSaid : Prop := fnCostOfUptoRow.holds Try.pinned (OpenSpec.upto fnCostOfSpec)

/-- 'laws.FnExactPairOk', WHERE WHAT IT READS IS OF BULK AT MOST 1048576: true; the input reads as it did. -/
def fnExactPairOkUptoRow : OpenClaim := { program := "ytcgedfahgldkoaa", sum := "f2c742834146f960dd45d55482276e73a72d3d1e3df39a6d1c144c273217d1fb", func := "loop.example/buttery/laws.FnExactPairOk", spec := "fnExactPairOk", unfollowed := true, recurses := true, apart := false, narrowed := true }
def FnExactPairOkUptoSaid : Prop := fnExactPairOkUptoRow.holds Try.pinned (OpenSpec.upto fnExactPairOkSpec)

end Rows
end Go.Proofs.Ytcgedfahgldkoaa
