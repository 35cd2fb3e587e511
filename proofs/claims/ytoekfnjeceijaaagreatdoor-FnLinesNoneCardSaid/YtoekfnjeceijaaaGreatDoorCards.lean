/-
  DERIVED. GIVEN WITH THE SEED: THE CARDS: each row of YtoekfnjeceijaaaGreatDoorRows.lean that lists a variable, with what it lists TIED to the program's text (the seventh form; the later family's looks); each row that meets fmt, with fmt's text TOLD by the authors' own Lean function (tested against real Go, not proved from fmt's source: count such statements apart). THE CARD IS WHAT COUNTS. Prove the row's statement (the work); the ties are given (YtoekfnjeceijaaaGreatDoorTie.lean); close each card by the builder's one call (the guide's Derived/Test/ToyasCard.lean, 'card_holds'). Laid BY PROGRAM, IN A SANDBOX (cutbox-door.mjs). By AI agents, Wed Nov 11 2026. No macro, syntax, notation, axiom, sorry.
-/
import Derived.Test.YtoekfnjeceijaaaGreatDoorRows
import GoSem.ClaimSeven
namespace Go.Proofs.YtoekfnjeceijaaaGreatDoor
namespace Rows

/-- THE TIED CARD OF 'laws.FnLinesTwice'. -/
def fnLinesTwiceCard : Claim7 := { stood := { row := fnLinesTwiceRow, standIns := [], harness := (true, "5831ee0e487022963db52fd0b7cc60ddae7248207dcdcf79268ec9e8a2aa6eeb"), looks := true }, kinds := [], alts := [], laidByText := true, laidKinds := [.data, .data, .data, .data, .sentinel, .pinned], laidTests := true, laidLooks := .later }
def FnLinesTwiceCardSaid : Prop := Claim7.holds Tryz.pinned (.plain (OpenSpec.ofChange fnLinesTwiceSpec)) fnLinesTwiceCard

/-- THE TIED CARD OF 'laws.FnLinesWear'. -/
def fnLinesWearCard : Claim7 := { stood := { row := fnLinesWearRow, standIns := [], harness := (true, "5831ee0e487022963db52fd0b7cc60ddae7248207dcdcf79268ec9e8a2aa6eeb"), looks := true }, kinds := [], alts := [], laidByText := true, laidKinds := [.data, .data, .data, .data, .sentinel, .pinned], laidTests := true, laidLooks := .later }
def FnLinesWearCardSaid : Prop := Claim7.holds Tryz.pinned (.plain (OpenSpec.ofChange fnLinesWearSpec)) fnLinesWearCard

/-- THE TIED CARD OF 'laws.FnLinesWrap'. -/
def fnLinesWrapCard : Claim7 := { stood := { row := fnLinesWrapRow, standIns := [], harness := (true, "5831ee0e487022963db52fd0b7cc60ddae7248207dcdcf79268ec9e8a2aa6eeb"), looks := true }, kinds := [], alts := [], laidByText := true, laidKinds := [.data, .data, .data, .data, .sentinel, .pinned], laidTests := true, laidLooks := .later }
def FnLinesWrapCardSaid : Prop := Claim7.holds Tryz.pinned (.plain (OpenSpec.ofChange fnLinesWrapSpec)) fnLinesWrapCard

/-- THE TIED CARD OF 'laws.FnExactLinesRun'. -/
def fnExactLinesRunCard : Claim7 := { stood := { row := fnExactLinesRunRow, standIns := [], harness := (true, "5831ee0e487022963db52fd0b7cc60ddae7248207dcdcf79268ec9e8a2aa6eeb"), looks := true }, kinds := [], alts := [], laidByText := true, laidKinds := [.data, .data, .data, .data, .sentinel, .pinned], laidTests := true, laidLooks := .later }
def FnExactLinesRunCardSaid : Prop := Claim7.holds Tryz.pinned (.plain (OpenSpec.ofChange fnExactLinesRunSpec)) fnExactLinesRunCard

/-- THE TIED CARD OF 'laws.FnLinesAll'. -/
def fnLinesAllCard : Claim7 := { stood := { row := fnLinesAllRow, standIns := [], harness := (true, "5831ee0e487022963db52fd0b7cc60ddae7248207dcdcf79268ec9e8a2aa6eeb"), looks := true }, kinds := [], alts := [], laidByText := true, laidKinds := [.data, .data, .data, .data, .sentinel, .pinned], laidTests := true, laidLooks := .later }
def FnLinesAllCardSaid : Prop := Claim7.holds Tryz.pinned (.plain (OpenSpec.ofChange fnLinesAllSpec)) fnLinesAllCard

/-- THE TIED CARD OF 'laws.FnLinesFall'. -/
def fnLinesFallCard : Claim7 := { stood := { row := fnLinesFallRow, standIns := [], harness := (true, "5831ee0e487022963db52fd0b7cc60ddae7248207dcdcf79268ec9e8a2aa6eeb"), looks := true }, kinds := [], alts := [], laidByText := true, laidKinds := [.data, .data, .data, .data, .sentinel, .pinned], laidTests := true, laidLooks := .later }
def FnLinesFallCardSaid : Prop := Claim7.holds Tryz.pinned (.plain (OpenSpec.ofChange fnLinesFallSpec)) fnLinesFallCard

/-- THE TIED CARD OF 'laws.FnLinesFill'. -/
def fnLinesFillCard : Claim7 := { stood := { row := fnLinesFillRow, standIns := [], harness := (true, "5831ee0e487022963db52fd0b7cc60ddae7248207dcdcf79268ec9e8a2aa6eeb"), looks := true }, kinds := [], alts := [], laidByText := true, laidKinds := [.data, .data, .data, .data, .sentinel, .pinned], laidTests := true, laidLooks := .later }
def FnLinesFillCardSaid : Prop := Claim7.holds Tryz.pinned (.plain (OpenSpec.ofChange fnLinesFillSpec)) fnLinesFillCard

/-- THE TIED CARD OF 'laws.FnLinesFlush'. -/
def fnLinesFlushCard : Claim7 := { stood := { row := fnLinesFlushRow, standIns := [], harness := (true, "5831ee0e487022963db52fd0b7cc60ddae7248207dcdcf79268ec9e8a2aa6eeb"), looks := true }, kinds := [], alts := [], laidByText := true, laidKinds := [.data, .data, .data, .data, .sentinel, .pinned], laidTests := true, laidLooks := .later }
def FnLinesFlushCardSaid : Prop := Claim7.holds Tryz.pinned (.plain (OpenSpec.ofChange fnLinesFlushSpec)) fnLinesFlushCard

/-- THE TIED CARD OF 'laws.FnLinesNone'. -/
def fnLinesNoneCard : Claim7 := { stood := { row := fnLinesNoneRow, standIns := [], harness := (true, "5831ee0e487022963db52fd0b7cc60ddae7248207dcdcf79268ec9e8a2aa6eeb"), looks := true }, kinds := [], alts := [], laidByText := true, laidKinds := [.data, .data, .data, .data, .sentinel, .pinned], laidTests := true, laidLooks := .later }
def FnLinesNoneCardSaid : Prop := Claim7.holds Tryz.pinned (.plain (OpenSpec.ofChange fnLinesNoneSpec)) fnLinesNoneCard

/-- THE TIED CARD OF 'laws.FnLinesPut'. -/
def fnLinesPutCard : Claim7 := { stood := { row := fnLinesPutRow, standIns := [], harness := (true, "5831ee0e487022963db52fd0b7cc60ddae7248207dcdcf79268ec9e8a2aa6eeb"), looks := true }, kinds := [], alts := [], laidByText := true, laidKinds := [.data, .data, .data, .data, .sentinel, .pinned], laidTests := true, laidLooks := .later }
def FnLinesPutCardSaid : Prop := Claim7.holds Tryz.pinned (.plain (OpenSpec.ofChange fnLinesPutSpec)) fnLinesPutCard

/-- THE TIED CARD OF 'laws.FnLinesQuiet'. -/
def fnLinesQuietCard : Claim7 := { stood := { row := fnLinesQuietRow, standIns := [], harness := (true, "5831ee0e487022963db52fd0b7cc60ddae7248207dcdcf79268ec9e8a2aa6eeb"), looks := true }, kinds := [], alts := [], laidByText := true, laidKinds := [.data, .data, .data, .data, .sentinel, .pinned], laidTests := true, laidLooks := .later }
def FnLinesQuietCardSaid : Prop := Claim7.holds Tryz.pinned (.plain (OpenSpec.ofChange fnLinesQuietSpec)) fnLinesQuietCard

/-- THE TIED CARD OF 'laws.FnLinesRun'. -/
def fnLinesRunCard : Claim7 := { stood := { row := fnLinesRunRow, standIns := [], harness := (true, "5831ee0e487022963db52fd0b7cc60ddae7248207dcdcf79268ec9e8a2aa6eeb"), looks := true }, kinds := [], alts := [], laidByText := true, laidKinds := [.data, .data, .data, .data, .sentinel, .pinned], laidTests := true, laidLooks := .later }
def FnLinesRunCardSaid : Prop := Claim7.holds Tryz.pinned (.plain (OpenSpec.ofChange fnLinesRunSpec)) fnLinesRunCard

/-- THE SECOND FORM's CARD OF 'laws.FnLinesTwice'. -/
def fnLinesTwiceUptoCard : Claim7 := { stood := { row := fnLinesTwiceUptoRow, standIns := [], harness := (true, "5831ee0e487022963db52fd0b7cc60ddae7248207dcdcf79268ec9e8a2aa6eeb"), looks := true }, kinds := [], alts := [], laidByText := true, laidKinds := [.data, .data, .data, .data, .sentinel, .pinned], laidTests := true, laidLooks := .later }
def FnLinesTwiceUptoCardSaid : Prop := Claim7.holds Tryz.pinned (.plain (OpenSpec.upto fnLinesTwiceSpec)) fnLinesTwiceUptoCard

/-- THE SECOND FORM's CARD OF 'laws.FnLinesWear'. -/
def fnLinesWearUptoCard : Claim7 := { stood := { row := fnLinesWearUptoRow, standIns := [], harness := (true, "5831ee0e487022963db52fd0b7cc60ddae7248207dcdcf79268ec9e8a2aa6eeb"), looks := true }, kinds := [], alts := [], laidByText := true, laidKinds := [.data, .data, .data, .data, .sentinel, .pinned], laidTests := true, laidLooks := .later }
def FnLinesWearUptoCardSaid : Prop := Claim7.holds Tryz.pinned (.plain (OpenSpec.upto fnLinesWearSpec)) fnLinesWearUptoCard

/-- THE SECOND FORM's CARD OF 'laws.FnLinesWrap'. -/
def fnLinesWrapUptoCard : Claim7 := { stood := { row := fnLinesWrapUptoRow, standIns := [], harness := (true, "5831ee0e487022963db52fd0b7cc60ddae7248207dcdcf79268ec9e8a2aa6eeb"), looks := true }, kinds := [], alts := [], laidByText := true, laidKinds := [.data, .data, .data, .data, .sentinel, .pinned], laidTests := true, laidLooks := .later }
def FnLinesWrapUptoCardSaid : Prop := Claim7.holds Tryz.pinned (.plain (OpenSpec.upto fnLinesWrapSpec)) fnLinesWrapUptoCard

/-- THE SECOND FORM's CARD OF 'laws.FnExactLinesRun'. -/
def fnExactLinesRunUptoCard : Claim7 := { stood := { row := fnExactLinesRunUptoRow, standIns := [], harness := (true, "5831ee0e487022963db52fd0b7cc60ddae7248207dcdcf79268ec9e8a2aa6eeb"), looks := true }, kinds := [], alts := [], laidByText := true, laidKinds := [.data, .data, .data, .data, .sentinel, .pinned], laidTests := true, laidLooks := .later }
def FnExactLinesRunUptoCardSaid : Prop := Claim7.holds Tryz.pinned (.plain (OpenSpec.upto fnExactLinesRunSpec)) fnExactLinesRunUptoCard

/-- THE SECOND FORM's CARD OF 'laws.FnLinesAll'. -/
def fnLinesAllUptoCard : Claim7 := { stood := { row := fnLinesAllUptoRow, standIns := [], harness := (true, "5831ee0e487022963db52fd0b7cc60ddae7248207dcdcf79268ec9e8a2aa6eeb"), looks := true }, kinds := [], alts := [], laidByText := true, laidKinds := [.data, .data, .data, .data, .sentinel, .pinned], laidTests := true, laidLooks := .later }
def FnLinesAllUptoCardSaid : Prop := Claim7.holds Tryz.pinned (.plain (OpenSpec.upto fnLinesAllSpec)) fnLinesAllUptoCard

/-- THE SECOND FORM's CARD OF 'laws.FnLinesFall'. -/
def fnLinesFallUptoCard : Claim7 := { stood := { row := fnLinesFallUptoRow, standIns := [], harness := (true, "5831ee0e487022963db52fd0b7cc60ddae7248207dcdcf79268ec9e8a2aa6eeb"), looks := true }, kinds := [], alts := [], laidByText := true, laidKinds := [.data, .data, .data, .data, .sentinel, .pinned], laidTests := true, laidLooks := .later }
def FnLinesFallUptoCardSaid : Prop := Claim7.holds Tryz.pinned (.plain (OpenSpec.upto fnLinesFallSpec)) fnLinesFallUptoCard

/-- THE SECOND FORM's CARD OF 'laws.FnLinesFill'. -/
def fnLinesFillUptoCard : Claim7 := { stood := { row := fnLinesFillUptoRow, standIns := [], harness := (true, "5831ee0e487022963db52fd0b7cc60ddae7248207dcdcf79268ec9e8a2aa6eeb"), looks := true }, kinds := [], alts := [], laidByText := true, laidKinds := [.data, .data, .data, .data, .sentinel, .pinned], laidTests := true, laidLooks := .later }
def FnLinesFillUptoCardSaid : Prop := Claim7.holds Tryz.pinned (.plain (OpenSpec.upto fnLinesFillSpec)) fnLinesFillUptoCard

/-- THE SECOND FORM's CARD OF 'laws.FnLinesFlush'. -/
def fnLinesFlushUptoCard : Claim7 := { stood := { row := fnLinesFlushUptoRow, standIns := [], harness := (true, "5831ee0e487022963db52fd0b7cc60ddae7248207dcdcf79268ec9e8a2aa6eeb"), looks := true }, kinds := [], alts := [], laidByText := true, laidKinds := [.data, .data, .data, .data, .sentinel, .pinned], laidTests := true, laidLooks := .later }
def FnLinesFlushUptoCardSaid : Prop := Claim7.holds Tryz.pinned (.plain (OpenSpec.upto fnLinesFlushSpec)) fnLinesFlushUptoCard

/-- THE SECOND FORM's CARD OF 'laws.FnLinesNone'. -/
def fnLinesNoneUptoCard : Claim7 := { stood := { row := fnLinesNoneUptoRow, standIns := [], harness := (true, "5831ee0e487022963db52fd0b7cc60ddae7248207dcdcf79268ec9e8a2aa6eeb"), looks := true }, kinds := [], alts := [], laidByText := true, laidKinds := [.data, .data, .data, .data, .sentinel, .pinned], laidTests := true, laidLooks := .later }
def FnLinesNoneUptoCardSaid : Prop := Claim7.holds Tryz.pinned (.plain (OpenSpec.upto fnLinesNoneSpec)) fnLinesNoneUptoCard

/-- THE SECOND FORM's CARD OF 'laws.FnLinesPut'. -/
def fnLinesPutUptoCard : Claim7 := { stood := { row := fnLinesPutUptoRow, standIns := [], harness := (true, "5831ee0e487022963db52fd0b7cc60ddae7248207dcdcf79268ec9e8a2aa6eeb"), looks := true }, kinds := [], alts := [], laidByText := true, laidKinds := [.data, .data, .data, .data, .sentinel, .pinned], laidTests := true, laidLooks := .later }
def FnLinesPutUptoCardSaid : Prop := Claim7.holds Tryz.pinned (.plain (OpenSpec.upto fnLinesPutSpec)) fnLinesPutUptoCard

/-- THE SECOND FORM's CARD OF 'laws.FnLinesQuiet'. -/
def fnLinesQuietUptoCard : Claim7 := { stood := { row := fnLinesQuietUptoRow, standIns := [], harness := (true, "5831ee0e487022963db52fd0b7cc60ddae7248207dcdcf79268ec9e8a2aa6eeb"), looks := true }, kinds := [], alts := [], laidByText := true, laidKinds := [.data, .data, .data, .data, .sentinel, .pinned], laidTests := true, laidLooks := .later }
def FnLinesQuietUptoCardSaid : Prop := Claim7.holds Tryz.pinned (.plain (OpenSpec.upto fnLinesQuietSpec)) fnLinesQuietUptoCard

/-- THE SECOND FORM's CARD OF 'laws.FnLinesRun'. -/
def fnLinesRunUptoCard : Claim7 := { stood := { row := fnLinesRunUptoRow, standIns := [], harness := (true, "5831ee0e487022963db52fd0b7cc60ddae7248207dcdcf79268ec9e8a2aa6eeb"), looks := true }, kinds := [], alts := [], laidByText := true, laidKinds := [.data, .data, .data, .data, .sentinel, .pinned], laidTests := true, laidLooks := .later }
def FnLinesRunUptoCardSaid : Prop := Claim7.holds Tryz.pinned (.plain (OpenSpec.upto fnLinesRunSpec)) fnLinesRunUptoCard
end Rows
end Go.Proofs.YtoekfnjeceijaaaGreatDoor
