/-
  DERIVED. GIVEN WITH THE SEED: THE CARDS: each row of YtfnfjfcncijapaaGreatDoorRows.lean that lists a variable, with what it lists TIED to the program's text (the seventh form; the later family's looks); each row that meets fmt, with fmt's text TOLD by the authors' own Lean function (tested against real Go, not proved from fmt's source: count such statements apart). THE CARD IS WHAT COUNTS. Prove the row's statement (the work); the ties are given (YtfnfjfcncijapaaGreatDoorTie.lean); close each card by the builder's one call (the guide's Derived/Test/ToyasCard.lean, 'card_holds'). Laid BY PROGRAM, IN A SANDBOX (cutbox-door.mjs). By AI agents, Wed Nov 11 2026. No macro, syntax, notation, axiom, sorry.
-/
import Derived.Test.YtfnfjfcncijapaaGreatDoorRows
import GoSem.ClaimSeven
namespace Go.Proofs.YtfnfjfcncijapaaGreatDoor
namespace Rows

/-- THE TIED CARD OF 'kinkeeplaw56.ScriptParses'. -/
def scriptParsesCard : Claim7 := { stood := { row := scriptParsesRow, standIns := [], harness := (true, "9f19c090244cc2f04c95745e003db57922ca6ceb36a3d1d0c63b9f981bcbe6b5"), looks := true }, kinds := [], alts := [], laidByText := true, laidKinds := [.data, .data, .data, .data, .sentinel, .sentinel, .listed, .data, .pinned], laidTests := true, laidLooks := .later }
def ScriptParsesCardSaid : Prop := Claim7.holds Tryz.pinned (.plain (OpenSpec.ofChange scriptParsesSpec)) scriptParsesCard

/-- THE TIED CARD OF 'kinkeeplaw56.ScriptPrints'. -/
def scriptPrintsCard : Claim7 := { stood := { row := scriptPrintsRow, standIns := [], harness := (true, "9f19c090244cc2f04c95745e003db57922ca6ceb36a3d1d0c63b9f981bcbe6b5"), looks := true }, kinds := [], alts := [], laidByText := true, laidKinds := [.data, .data, .data, .data, .sentinel, .sentinel, .listed, .data, .pinned], laidTests := true, laidLooks := .later }
def ScriptPrintsCardSaid : Prop := Claim7.holds Tryz.pinned (.plain (OpenSpec.ofChange scriptPrintsSpec)) scriptPrintsCard

/-- THE TIED CARD OF 'kinkeeplaw56.ScriptSpaces'. -/
def scriptSpacesCard : Claim7 := { stood := { row := scriptSpacesRow, standIns := [], harness := (true, "9f19c090244cc2f04c95745e003db57922ca6ceb36a3d1d0c63b9f981bcbe6b5"), looks := true }, kinds := [], alts := [], laidByText := true, laidKinds := [.data, .data, .data, .data, .sentinel, .sentinel, .listed, .data, .pinned], laidTests := true, laidLooks := .later }
def ScriptSpacesCardSaid : Prop := Claim7.holds Tryz.pinned (.plain (OpenSpec.ofChange scriptSpacesSpec)) scriptSpacesCard

/-- THE TIED CARD OF 'kinkeeplaw56.ScriptEvents'. -/
def scriptEventsCard : Claim7 := { stood := { row := scriptEventsRow, standIns := [], harness := (true, "9f19c090244cc2f04c95745e003db57922ca6ceb36a3d1d0c63b9f981bcbe6b5"), looks := true }, kinds := [], alts := [], laidByText := true, laidKinds := [.data, .data, .data, .data, .sentinel, .sentinel, .listed, .data, .pinned], laidTests := true, laidLooks := .later }
def ScriptEventsCardSaid : Prop := Claim7.holds Tryz.pinned (.plain (OpenSpec.ofChange scriptEventsSpec)) scriptEventsCard

/-- THE TIED CARD OF 'kinkeeplaw56.ScriptSetups'. -/
def scriptSetupsCard : Claim7 := { stood := { row := scriptSetupsRow, standIns := [], harness := (true, "9f19c090244cc2f04c95745e003db57922ca6ceb36a3d1d0c63b9f981bcbe6b5"), looks := true }, kinds := [], alts := [], laidByText := true, laidKinds := [.data, .data, .data, .data, .sentinel, .sentinel, .listed, .data, .pinned], laidTests := true, laidLooks := .later }
def ScriptSetupsCardSaid : Prop := Claim7.holds Tryz.pinned (.plain (OpenSpec.ofChange scriptSetupsSpec)) scriptSetupsCard

/-- THE TIED CARD OF 'kinkeeplaw56.ScriptCommands'. -/
def scriptCommandsCard : Claim7 := { stood := { row := scriptCommandsRow, standIns := [], harness := (true, "9f19c090244cc2f04c95745e003db57922ca6ceb36a3d1d0c63b9f981bcbe6b5"), looks := true }, kinds := [], alts := [], laidByText := true, laidKinds := [.data, .data, .data, .data, .sentinel, .sentinel, .listed, .data, .pinned], laidTests := true, laidLooks := .later }
def ScriptCommandsCardSaid : Prop := Claim7.holds Tryz.pinned (.plain (OpenSpec.ofChange scriptCommandsSpec)) scriptCommandsCard

/-- THE SECOND FORM's CARD OF 'kinkeeplaw56.ScriptParses'. -/
def scriptParsesUptoCard : Claim7 := { stood := { row := scriptParsesUptoRow, standIns := [], harness := (true, "9f19c090244cc2f04c95745e003db57922ca6ceb36a3d1d0c63b9f981bcbe6b5"), looks := true }, kinds := [], alts := [], laidByText := true, laidKinds := [.data, .data, .data, .data, .sentinel, .sentinel, .listed, .data, .pinned], laidTests := true, laidLooks := .later }
def ScriptParsesUptoCardSaid : Prop := Claim7.holds Tryz.pinned (.plain (OpenSpec.upto scriptParsesSpec)) scriptParsesUptoCard

/-- THE SECOND FORM's CARD OF 'kinkeeplaw56.ScriptPrints'. -/
def scriptPrintsUptoCard : Claim7 := { stood := { row := scriptPrintsUptoRow, standIns := [], harness := (true, "9f19c090244cc2f04c95745e003db57922ca6ceb36a3d1d0c63b9f981bcbe6b5"), looks := true }, kinds := [], alts := [], laidByText := true, laidKinds := [.data, .data, .data, .data, .sentinel, .sentinel, .listed, .data, .pinned], laidTests := true, laidLooks := .later }
def ScriptPrintsUptoCardSaid : Prop := Claim7.holds Tryz.pinned (.plain (OpenSpec.upto scriptPrintsSpec)) scriptPrintsUptoCard

/-- THE SECOND FORM's CARD OF 'kinkeeplaw56.ScriptSpaces'. -/
def scriptSpacesUptoCard : Claim7 := { stood := { row := scriptSpacesUptoRow, standIns := [], harness := (true, "9f19c090244cc2f04c95745e003db57922ca6ceb36a3d1d0c63b9f981bcbe6b5"), looks := true }, kinds := [], alts := [], laidByText := true, laidKinds := [.data, .data, .data, .data, .sentinel, .sentinel, .listed, .data, .pinned], laidTests := true, laidLooks := .later }
def ScriptSpacesUptoCardSaid : Prop := Claim7.holds Tryz.pinned (.plain (OpenSpec.upto scriptSpacesSpec)) scriptSpacesUptoCard

/-- THE SECOND FORM's CARD OF 'kinkeeplaw56.ScriptEvents'. -/
def scriptEventsUptoCard : Claim7 := { stood := { row := scriptEventsUptoRow, standIns := [], harness := (true, "9f19c090244cc2f04c95745e003db57922ca6ceb36a3d1d0c63b9f981bcbe6b5"), looks := true }, kinds := [], alts := [], laidByText := true, laidKinds := [.data, .data, .data, .data, .sentinel, .sentinel, .listed, .data, .pinned], laidTests := true, laidLooks := .later }
def ScriptEventsUptoCardSaid : Prop := Claim7.holds Tryz.pinned (.plain (OpenSpec.upto scriptEventsSpec)) scriptEventsUptoCard

/-- THE SECOND FORM's CARD OF 'kinkeeplaw56.ScriptSetups'. -/
def scriptSetupsUptoCard : Claim7 := { stood := { row := scriptSetupsUptoRow, standIns := [], harness := (true, "9f19c090244cc2f04c95745e003db57922ca6ceb36a3d1d0c63b9f981bcbe6b5"), looks := true }, kinds := [], alts := [], laidByText := true, laidKinds := [.data, .data, .data, .data, .sentinel, .sentinel, .listed, .data, .pinned], laidTests := true, laidLooks := .later }
def ScriptSetupsUptoCardSaid : Prop := Claim7.holds Tryz.pinned (.plain (OpenSpec.upto scriptSetupsSpec)) scriptSetupsUptoCard

/-- THE SECOND FORM's CARD OF 'kinkeeplaw56.ScriptCommands'. -/
def scriptCommandsUptoCard : Claim7 := { stood := { row := scriptCommandsUptoRow, standIns := [], harness := (true, "9f19c090244cc2f04c95745e003db57922ca6ceb36a3d1d0c63b9f981bcbe6b5"), looks := true }, kinds := [], alts := [], laidByText := true, laidKinds := [.data, .data, .data, .data, .sentinel, .sentinel, .listed, .data, .pinned], laidTests := true, laidLooks := .later }
def ScriptCommandsUptoCardSaid : Prop := Claim7.holds Tryz.pinned (.plain (OpenSpec.upto scriptCommandsSpec)) scriptCommandsUptoCard
end Rows
end Go.Proofs.YtfnfjfcncijapaaGreatDoor
