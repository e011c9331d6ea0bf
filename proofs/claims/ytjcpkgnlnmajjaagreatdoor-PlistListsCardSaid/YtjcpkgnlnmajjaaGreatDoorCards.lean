/-
  DERIVED. GIVEN WITH THE SEED: THE CARDS: each row of YtjcpkgnlnmajjaaGreatDoorRows.lean that lists a variable, with what it lists TIED to the program's text (the seventh form; the later family's looks); each row that meets fmt, with fmt's text TOLD by the authors' own Lean function (tested against real Go, not proved from fmt's source: count such statements apart). THE CARD IS WHAT COUNTS. Prove the row's statement (the work); the ties are given (YtjcpkgnlnmajjaaGreatDoorTie.lean); close each card by the builder's one call (the guide's Derived/Test/ToyasCard.lean, 'card_holds'). Laid BY PROGRAM, IN A SANDBOX (cutbox-door.mjs). By AI agents, Wed Nov 11 2026. No macro, syntax, notation, axiom, sorry.
-/
import Derived.Test.YtjcpkgnlnmajjaaGreatDoorRows
import GoSem.ClaimSeven
namespace Go.Proofs.YtjcpkgnlnmajjaaGreatDoor
namespace Rows

/-- THE TIED CARD OF 'crossroadslaw07.PlistRule'. -/
def plistRuleCard : Claim7 := { stood := { row := plistRuleRow, standIns := [], harness := (true, "57d2bf0df80b2a732103483b63327e0fd847abf2f9787a7acd3e34f24be50bb8"), looks := true }, kinds := [], alts := [], laidByText := true, laidKinds := [.data, .data, .data, .data, .sentinel, .sentinel, .pinned], laidTests := true, laidLooks := .later }
def PlistRuleCardSaid : Prop := Claim7.holds Tryz.pinned (.plain (OpenSpec.ofChange plistRuleSpec)) plistRuleCard

/-- THE TIED CARD OF 'crossroadslaw07.PlistParse'. -/
def plistParseCard : Claim7 := { stood := { row := plistParseRow, standIns := [], harness := (true, "57d2bf0df80b2a732103483b63327e0fd847abf2f9787a7acd3e34f24be50bb8"), looks := true }, kinds := [], alts := [], laidByText := true, laidKinds := [.data, .data, .data, .data, .sentinel, .sentinel, .pinned], laidTests := true, laidLooks := .later }
def PlistParseCardSaid : Prop := Claim7.holds Tryz.pinned (.plain (OpenSpec.ofChange plistParseSpec)) plistParseCard

/-- THE TIED CARD OF 'crossroadslaw07.PlistIdle'. -/
def plistIdleCard : Claim7 := { stood := { row := plistIdleRow, standIns := [], harness := (true, "57d2bf0df80b2a732103483b63327e0fd847abf2f9787a7acd3e34f24be50bb8"), looks := true }, kinds := [], alts := [], laidByText := true, laidKinds := [.data, .data, .data, .data, .sentinel, .sentinel, .pinned], laidTests := true, laidLooks := .later }
def PlistIdleCardSaid : Prop := Claim7.holds Tryz.pinned (.plain (OpenSpec.ofChange plistIdleSpec)) plistIdleCard

/-- THE TIED CARD OF 'crossroadslaw07.PlistBack'. -/
def plistBackCard : Claim7 := { stood := { row := plistBackRow, standIns := [], harness := (true, "57d2bf0df80b2a732103483b63327e0fd847abf2f9787a7acd3e34f24be50bb8"), looks := true }, kinds := [], alts := [], laidByText := true, laidKinds := [.data, .data, .data, .data, .sentinel, .sentinel, .pinned], laidTests := true, laidLooks := .later }
def PlistBackCardSaid : Prop := Claim7.holds Tryz.pinned (.plain (OpenSpec.ofChange plistBackSpec)) plistBackCard

/-- THE TIED CARD OF 'crossroadslaw07.PlistLists'. -/
def plistListsCard : Claim7 := { stood := { row := plistListsRow, standIns := [], harness := (true, "57d2bf0df80b2a732103483b63327e0fd847abf2f9787a7acd3e34f24be50bb8"), looks := true }, kinds := [], alts := [], laidByText := true, laidKinds := [.data, .data, .data, .data, .sentinel, .sentinel, .pinned], laidTests := true, laidLooks := .later }
def PlistListsCardSaid : Prop := Claim7.holds Tryz.pinned (.plain (OpenSpec.ofChange plistListsSpec)) plistListsCard

/-- THE SECOND FORM's CARD OF 'crossroadslaw07.PlistRule'. -/
def plistRuleUptoCard : Claim7 := { stood := { row := plistRuleUptoRow, standIns := [], harness := (true, "57d2bf0df80b2a732103483b63327e0fd847abf2f9787a7acd3e34f24be50bb8"), looks := true }, kinds := [], alts := [], laidByText := true, laidKinds := [.data, .data, .data, .data, .sentinel, .sentinel, .pinned], laidTests := true, laidLooks := .later }
def PlistRuleUptoCardSaid : Prop := Claim7.holds Tryz.pinned (.plain (OpenSpec.upto plistRuleSpec)) plistRuleUptoCard

/-- THE SECOND FORM's CARD OF 'crossroadslaw07.PlistParse'. -/
def plistParseUptoCard : Claim7 := { stood := { row := plistParseUptoRow, standIns := [], harness := (true, "57d2bf0df80b2a732103483b63327e0fd847abf2f9787a7acd3e34f24be50bb8"), looks := true }, kinds := [], alts := [], laidByText := true, laidKinds := [.data, .data, .data, .data, .sentinel, .sentinel, .pinned], laidTests := true, laidLooks := .later }
def PlistParseUptoCardSaid : Prop := Claim7.holds Tryz.pinned (.plain (OpenSpec.upto plistParseSpec)) plistParseUptoCard

/-- THE SECOND FORM's CARD OF 'crossroadslaw07.PlistIdle'. -/
def plistIdleUptoCard : Claim7 := { stood := { row := plistIdleUptoRow, standIns := [], harness := (true, "57d2bf0df80b2a732103483b63327e0fd847abf2f9787a7acd3e34f24be50bb8"), looks := true }, kinds := [], alts := [], laidByText := true, laidKinds := [.data, .data, .data, .data, .sentinel, .sentinel, .pinned], laidTests := true, laidLooks := .later }
def PlistIdleUptoCardSaid : Prop := Claim7.holds Tryz.pinned (.plain (OpenSpec.upto plistIdleSpec)) plistIdleUptoCard

/-- THE SECOND FORM's CARD OF 'crossroadslaw07.PlistBack'. -/
def plistBackUptoCard : Claim7 := { stood := { row := plistBackUptoRow, standIns := [], harness := (true, "57d2bf0df80b2a732103483b63327e0fd847abf2f9787a7acd3e34f24be50bb8"), looks := true }, kinds := [], alts := [], laidByText := true, laidKinds := [.data, .data, .data, .data, .sentinel, .sentinel, .pinned], laidTests := true, laidLooks := .later }
def PlistBackUptoCardSaid : Prop := Claim7.holds Tryz.pinned (.plain (OpenSpec.upto plistBackSpec)) plistBackUptoCard

/-- THE SECOND FORM's CARD OF 'crossroadslaw07.PlistLists'. -/
def plistListsUptoCard : Claim7 := { stood := { row := plistListsUptoRow, standIns := [], harness := (true, "57d2bf0df80b2a732103483b63327e0fd847abf2f9787a7acd3e34f24be50bb8"), looks := true }, kinds := [], alts := [], laidByText := true, laidKinds := [.data, .data, .data, .data, .sentinel, .sentinel, .pinned], laidTests := true, laidLooks := .later }
def PlistListsUptoCardSaid : Prop := Claim7.holds Tryz.pinned (.plain (OpenSpec.upto plistListsSpec)) plistListsUptoCard
end Rows
end Go.Proofs.YtjcpkgnlnmajjaaGreatDoor
