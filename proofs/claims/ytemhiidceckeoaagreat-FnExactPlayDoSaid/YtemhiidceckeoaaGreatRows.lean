/-
  No cell of these rows narrows 'for every input' (looked for: loops, veiled, ifaces, maps, wideKeys, modest, calm, conditions, laid).
  DERIVED. THE GIVEN ROWS OF THIS SEAT. 4 by the template 'for every input the law returns true; each argument reads behind the call as it read before'; 0 by the template 'total and deterministic' (their statements: YtemhiidceckeoaaGreatTotals.lean).
  GIVEN WITH THE SEED: the statements are not yours to turn. If you find one false, say at which input.
  Laid BY PROGRAM, IN A SANDBOX (cutbox-rows.mjs): the forced cells as the released guide's own fill.sh prints them over the translation db816167ad5f69d4… (all of the seat's roots in one cut). By AI agents, Wed Nov 11 2026. No macro, syntax, notation, axiom, sorry.
-/
import Derived.Test.YtemhiidceckeoaaGreatChecked
import GoSem.Claim
import GoSem.ClaimJoined
import GoSem.ClaimMapViews
import Derived.JoinedTies
import Derived.KernelRfl
namespace Go.Proofs.YtemhiidceckeoaaGreat
/- THE CELL 'sum', in the pinned program and in every row, IS THE sha256 OF THE DUMP (.gsa) THAT YtemhiidceckeoaaGreatProg.lean LOADS. Nothing in Lean hashes anything: it is a label: what it is worth is what the hold of that sum in a sandbox is worth. -/
noncomputable def Tryz.pinned : Pinned := { name := "ytemhiidceckeoaagreat", sum := "db816167ad5f69d47ee900e67f24615cdba2dbe449e9d9bfed1492186a6f5f34", checked := Tryz.checked }
namespace Rows
def none {H : Type} : Left H := { results := [], args := [] }

/-- 'laws.FnExactPairPut': WHATEVER THE INPUT: true; the input reads as it did. -/
def fnExactPairPutSpec : ChangeSpec := { name := "fnExactPairPut", fn := fun _ => fun
  | [d1, d2, d3, d4, d5] => { results := [.lit (.bool true)], args := [d1, d2, d3, d4, d5] }
  | _ => none }
def fnExactPairPutRow : OpenClaim := { program := "ytemhiidceckeoaagreat", sum := "db816167ad5f69d47ee900e67f24615cdba2dbe449e9d9bfed1492186a6f5f34", func := "loop.example/buttery/laws.FnExactPairPut", spec := "fnExactPairPut", unfollowed := true, recurses := true, apart := false }
def FnExactPairPutSaid : Prop := fnExactPairPutRow.holds Tryz.pinned (OpenSpec.ofChange fnExactPairPutSpec)

/-- ITS FALSE NEIGHBOUR: 'it returns false'. Refute it at one input. -/
def fnExactPairPutWrong : ChangeSpec := { name := "fnExactPairPut", fn := fun _ => fun
  | [d1, d2, d3, d4, d5] => { results := [.lit (.bool false)], args := [d1, d2, d3, d4, d5] }
  | _ => none }
def FnExactPairPutWrongFalsely : Prop := fnExactPairPutRow.holds Tryz.pinned (OpenSpec.ofChange fnExactPairPutWrong)

/-- 'laws.FnExactPairMend': WHATEVER THE INPUT: true; the input reads as it did. -/
def fnExactPairMendSpec : ChangeSpec := { name := "fnExactPairMend", fn := fun _ => fun
  | [d] => { results := [.lit (.bool true)], args := [d] }
  | _ => none }
def fnExactPairMendRow : OpenClaim := { program := "ytemhiidceckeoaagreat", sum := "db816167ad5f69d47ee900e67f24615cdba2dbe449e9d9bfed1492186a6f5f34", func := "loop.example/buttery/laws.FnExactPairMend", spec := "fnExactPairMend", unfollowed := true, recurses := true, apart := false }
def FnExactPairMendSaid : Prop := fnExactPairMendRow.holds Tryz.pinned (OpenSpec.ofChange fnExactPairMendSpec)

/-- ITS FALSE NEIGHBOUR: 'it returns false'. Refute it at one input. -/
def fnExactPairMendWrong : ChangeSpec := { name := "fnExactPairMend", fn := fun _ => fun
  | [d] => { results := [.lit (.bool false)], args := [d] }
  | _ => none }
def FnExactPairMendWrongFalsely : Prop := fnExactPairMendRow.holds Tryz.pinned (OpenSpec.ofChange fnExactPairMendWrong)

/-- 'laws.FnExactPlayDo': WHATEVER THE INPUT: true; the input reads as it did. -/
def fnExactPlayDoSpec : ChangeSpec := { name := "fnExactPlayDo", fn := fun _ => fun
  | [d1, d2] => { results := [.lit (.bool true)], args := [d1, d2] }
  | _ => none }
def fnExactPlayDoRow : OpenClaim := { program := "ytemhiidceckeoaagreat", sum := "db816167ad5f69d47ee900e67f24615cdba2dbe449e9d9bfed1492186a6f5f34", func := "loop.example/buttery/laws.FnExactPlayDo", spec := "fnExactPlayDo", unfollowed := true, recurses := true, apart := false }
def FnExactPlayDoSaid : Prop := fnExactPlayDoRow.holds Tryz.pinned (OpenSpec.ofChange fnExactPlayDoSpec)

/-- ITS FALSE NEIGHBOUR: 'it returns false'. Refute it at one input. -/
def fnExactPlayDoWrong : ChangeSpec := { name := "fnExactPlayDo", fn := fun _ => fun
  | [d1, d2] => { results := [.lit (.bool false)], args := [d1, d2] }
  | _ => none }
def FnExactPlayDoWrongFalsely : Prop := fnExactPlayDoRow.holds Tryz.pinned (OpenSpec.ofChange fnExactPlayDoWrong)

/-- 'laws.FnExactPairBack': WHATEVER THE INPUT: true; the input reads as it did. -/
def fnExactPairBackSpec : ChangeSpec := { name := "fnExactPairBack", fn := fun _ => fun
  | [d] => { results := [.lit (.bool true)], args := [d] }
  | _ => none }
def fnExactPairBackRow : OpenClaim := { program := "ytemhiidceckeoaagreat", sum := "db816167ad5f69d47ee900e67f24615cdba2dbe449e9d9bfed1492186a6f5f34", func := "loop.example/buttery/laws.FnExactPairBack", spec := "fnExactPairBack", unfollowed := true, recurses := true, apart := false }
def FnExactPairBackSaid : Prop := fnExactPairBackRow.holds Tryz.pinned (OpenSpec.ofChange fnExactPairBackSpec)

/-- ITS FALSE NEIGHBOUR: 'it returns false'. Refute it at one input. -/
def fnExactPairBackWrong : ChangeSpec := { name := "fnExactPairBack", fn := fun _ => fun
  | [d] => { results := [.lit (.bool false)], args := [d] }
  | _ => none }
def FnExactPairBackWrongFalsely : Prop := fnExactPairBackRow.holds Tryz.pinned (OpenSpec.ofChange fnExactPairBackWrong)

/- THE SECOND FORM. 'bulk': how many values and letters a reading holds, each counted each time it is reached (what is shared counts as often as it is met; a slice's spare places count too). A statement '..UptoSaid' is the law's where the arguments, and the package variables that the reading takes, are together of bulk at most 1048576: NARROWER than '..Said'. Prove '..Said' where nothing that the law and all that it calls make is longer than what came in: it says more and counts as full. Else prove '..UptoSaid'. A law counts once. -/
mutual
def uptoBulk {H : Type} : DataW H → Nat
  | .lit (.string bytes) => bytes.length + 1
  | .lit _ => 1
  | .nil => 1
  | .ptr d => uptoBulk d + 1
  | .slice elems spare => uptoBulkAll elems + uptoBulkAll spare + 1
  | .agg parts => uptoBulkAll parts + 1
  | .iface _ d => uptoBulk d + 1
  | .map entries => uptoBulkEntries entries + 1
  | .held _ => 1
def uptoBulkAll {H : Type} : List (DataW H) → Nat
  | [] => 0
  | d :: r => uptoBulk d + uptoBulkAll r
def uptoBulkEntries {H : Type} : List (Lit × DataW H) → Nat
  | [] => 0
  | x :: r => uptoBulkEntry x + uptoBulkEntries r
def uptoBulkEntry {H : Type} : Lit × DataW H → Nat
  | (.string bytes, d) => bytes.length + uptoBulk d + 1
  | (_, d) => uptoBulk d + 1
 end
def uptoSmall : (H : Type) → List (DataW H) → Bool := fun _ ds => decide (uptoBulkAll ds ≤ 1048576)
def OpenSpec.upto (s : _root_.Go.ChangeSpec) : _root_.Go.OpenSpec := { _root_.Go.OpenSpec.ofChange s with cond := some uptoSmall }

/-- 'laws.FnExactPairPut', WHERE WHAT IT READS IS OF BULK AT MOST 1048576: true; the input reads as it did. -/
def fnExactPairPutUptoRow : OpenClaim := { program := "ytemhiidceckeoaagreat", sum := "db816167ad5f69d47ee900e67f24615cdba2dbe449e9d9bfed1492186a6f5f34", func := "loop.example/buttery/laws.FnExactPairPut", spec := "fnExactPairPut", unfollowed := true, recurses := true, apart := false, narrowed := true }
def FnExactPairPutUptoSaid : Prop := fnExactPairPutUptoRow.holds Tryz.pinned (OpenSpec.upto fnExactPairPutSpec)

/-- 'laws.FnExactPairMend', WHERE WHAT IT READS IS OF BULK AT MOST 1048576: true; the input reads as it did. -/
def fnExactPairMendUptoRow : OpenClaim := { program := "ytemhiidceckeoaagreat", sum := "db816167ad5f69d47ee900e67f24615cdba2dbe449e9d9bfed1492186a6f5f34", func := "loop.example/buttery/laws.FnExactPairMend", spec := "fnExactPairMend", unfollowed := true, recurses := true, apart := false, narrowed := true }
def FnExactPairMendUptoSaid : Prop := fnExactPairMendUptoRow.holds Tryz.pinned (OpenSpec.upto fnExactPairMendSpec)

/-- 'laws.FnExactPlayDo', WHERE WHAT IT READS IS OF BULK AT MOST 1048576: true; the input reads as it did. -/
def fnExactPlayDoUptoRow : OpenClaim := { program := "ytemhiidceckeoaagreat", sum := "db816167ad5f69d47ee900e67f24615cdba2dbe449e9d9bfed1492186a6f5f34", func := "loop.example/buttery/laws.FnExactPlayDo", spec := "fnExactPlayDo", unfollowed := true, recurses := true, apart := false, narrowed := true }
def FnExactPlayDoUptoSaid : Prop := fnExactPlayDoUptoRow.holds Tryz.pinned (OpenSpec.upto fnExactPlayDoSpec)

/-- 'laws.FnExactPairBack', WHERE WHAT IT READS IS OF BULK AT MOST 1048576: true; the input reads as it did. -/
def fnExactPairBackUptoRow : OpenClaim := { program := "ytemhiidceckeoaagreat", sum := "db816167ad5f69d47ee900e67f24615cdba2dbe449e9d9bfed1492186a6f5f34", func := "loop.example/buttery/laws.FnExactPairBack", spec := "fnExactPairBack", unfollowed := true, recurses := true, apart := false, narrowed := true }
def FnExactPairBackUptoSaid : Prop := fnExactPairBackUptoRow.holds Tryz.pinned (OpenSpec.upto fnExactPairBackSpec)

end Rows
end Go.Proofs.YtemhiidceckeoaaGreat
