/-
  DERIVED. GIVEN WITH THE SEED: THE CARDS: each row of YtkdhongicibhbaaDoorRows.lean that lists a variable, with what it lists TIED to the program's text (the seventh form; the later family's looks); each row that meets fmt, with fmt's text TOLD by the authors' own Lean function (tested against real Go, not proved from fmt's source: count such statements apart). THE CARD IS WHAT COUNTS. Prove the row's statement (the work); the ties are given (YtkdhongicibhbaaDoorTie.lean); close each card by the builder's one call (the guide's Derived/Test/ToyasCard.lean, 'card_holds'). Laid BY PROGRAM, IN A SANDBOX (cutbox-door.mjs). By AI agents, Wed Nov 11 2026. No macro, syntax, notation, axiom, sorry.
-/
import Derived.Test.YtkdhongicibhbaaDoorRows
import GoSem.ClaimSeven
namespace Go.Proofs.YtkdhongicibhbaaDoor
namespace Rows

/-- THE TIED CARD OF 'crossroadslaw03.AddrParse'. -/
def addrParseCard : Claim7 := { stood := { row := addrParseRow, standIns := [], harness := (true, "13e0661b772a76ff4d7697c23898e7f14b49c0dc0eb8698d897466caf84af64a"), looks := true }, kinds := [], alts := [], laidByText := true, laidKinds := [.data, .data, .data, .data, .sentinel, .sentinel, .pinned], laidTests := true, laidLooks := .later }
def AddrParseCardSaid : Prop := Claim7.holds Tryd.pinned (.plain (OpenSpec.ofChange addrParseSpec)) addrParseCard

/-- THE TIED CARD OF 'crossroadslaw03.AddrOrder'. -/
def addrOrderCard : Claim7 := { stood := { row := addrOrderRow, standIns := [], harness := (true, "13e0661b772a76ff4d7697c23898e7f14b49c0dc0eb8698d897466caf84af64a"), looks := true }, kinds := [], alts := [], laidByText := true, laidKinds := [.data, .data, .data, .data, .sentinel, .sentinel, .pinned], laidTests := true, laidLooks := .later }
def AddrOrderCardSaid : Prop := Claim7.holds Tryd.pinned (.plain (OpenSpec.ofChange addrOrderSpec)) addrOrderCard

/-- THE TIED CARD OF 'crossroadslaw03.AddrBack'. -/
def addrBackCard : Claim7 := { stood := { row := addrBackRow, standIns := [], harness := (true, "13e0661b772a76ff4d7697c23898e7f14b49c0dc0eb8698d897466caf84af64a"), looks := true }, kinds := [], alts := [], laidByText := true, laidKinds := [.data, .data, .data, .data, .sentinel, .sentinel, .pinned], laidTests := true, laidLooks := .later }
def AddrBackCardSaid : Prop := Claim7.holds Tryd.pinned (.plain (OpenSpec.ofChange addrBackSpec)) addrBackCard

/-- THE TIED CARD OF 'crossroadslaw03.AddrPairs'. -/
def addrPairsCard : Claim7 := { stood := { row := addrPairsRow, standIns := [], harness := (true, "13e0661b772a76ff4d7697c23898e7f14b49c0dc0eb8698d897466caf84af64a"), looks := true }, kinds := [], alts := [], laidByText := true, laidKinds := [.data, .data, .data, .data, .sentinel, .sentinel, .pinned], laidTests := true, laidLooks := .later }
def AddrPairsCardSaid : Prop := Claim7.holds Tryd.pinned (.plain (OpenSpec.ofChange addrPairsSpec)) addrPairsCard

/-- THE TIED CARD OF 'crossroadslaw03.AddrBlocks'. -/
def addrBlocksCard : Claim7 := { stood := { row := addrBlocksRow, standIns := [], harness := (true, "13e0661b772a76ff4d7697c23898e7f14b49c0dc0eb8698d897466caf84af64a"), looks := true }, kinds := [], alts := [], laidByText := true, laidKinds := [.data, .data, .data, .data, .sentinel, .sentinel, .pinned], laidTests := true, laidLooks := .later }
def AddrBlocksCardSaid : Prop := Claim7.holds Tryd.pinned (.plain (OpenSpec.ofChange addrBlocksSpec)) addrBlocksCard

/-- THE TIED CARD OF 'crossroadslaw03.AddrTold'. -/
def addrToldCard : Claim7 := { stood := { row := addrToldRow, standIns := [], harness := (true, "13e0661b772a76ff4d7697c23898e7f14b49c0dc0eb8698d897466caf84af64a"), looks := true }, kinds := [], alts := [], laidByText := true, laidKinds := [.data, .data, .data, .data, .sentinel, .sentinel, .pinned], laidTests := true, laidLooks := .later }
def AddrToldCardSaid : Prop := Claim7.holds Tryd.pinned (.plain (OpenSpec.ofChange addrToldSpec)) addrToldCard

/-- THE SECOND FORM's CARD OF 'crossroadslaw03.AddrParse'. -/
def addrParseUptoCard : Claim7 := { stood := { row := addrParseUptoRow, standIns := [], harness := (true, "13e0661b772a76ff4d7697c23898e7f14b49c0dc0eb8698d897466caf84af64a"), looks := true }, kinds := [], alts := [], laidByText := true, laidKinds := [.data, .data, .data, .data, .sentinel, .sentinel, .pinned], laidTests := true, laidLooks := .later }
def AddrParseUptoCardSaid : Prop := Claim7.holds Tryd.pinned (.plain (OpenSpec.upto addrParseSpec)) addrParseUptoCard

/-- THE SECOND FORM's CARD OF 'crossroadslaw03.AddrOrder'. -/
def addrOrderUptoCard : Claim7 := { stood := { row := addrOrderUptoRow, standIns := [], harness := (true, "13e0661b772a76ff4d7697c23898e7f14b49c0dc0eb8698d897466caf84af64a"), looks := true }, kinds := [], alts := [], laidByText := true, laidKinds := [.data, .data, .data, .data, .sentinel, .sentinel, .pinned], laidTests := true, laidLooks := .later }
def AddrOrderUptoCardSaid : Prop := Claim7.holds Tryd.pinned (.plain (OpenSpec.upto addrOrderSpec)) addrOrderUptoCard

/-- THE SECOND FORM's CARD OF 'crossroadslaw03.AddrBack'. -/
def addrBackUptoCard : Claim7 := { stood := { row := addrBackUptoRow, standIns := [], harness := (true, "13e0661b772a76ff4d7697c23898e7f14b49c0dc0eb8698d897466caf84af64a"), looks := true }, kinds := [], alts := [], laidByText := true, laidKinds := [.data, .data, .data, .data, .sentinel, .sentinel, .pinned], laidTests := true, laidLooks := .later }
def AddrBackUptoCardSaid : Prop := Claim7.holds Tryd.pinned (.plain (OpenSpec.upto addrBackSpec)) addrBackUptoCard

/-- THE SECOND FORM's CARD OF 'crossroadslaw03.AddrPairs'. -/
def addrPairsUptoCard : Claim7 := { stood := { row := addrPairsUptoRow, standIns := [], harness := (true, "13e0661b772a76ff4d7697c23898e7f14b49c0dc0eb8698d897466caf84af64a"), looks := true }, kinds := [], alts := [], laidByText := true, laidKinds := [.data, .data, .data, .data, .sentinel, .sentinel, .pinned], laidTests := true, laidLooks := .later }
def AddrPairsUptoCardSaid : Prop := Claim7.holds Tryd.pinned (.plain (OpenSpec.upto addrPairsSpec)) addrPairsUptoCard

/-- THE SECOND FORM's CARD OF 'crossroadslaw03.AddrBlocks'. -/
def addrBlocksUptoCard : Claim7 := { stood := { row := addrBlocksUptoRow, standIns := [], harness := (true, "13e0661b772a76ff4d7697c23898e7f14b49c0dc0eb8698d897466caf84af64a"), looks := true }, kinds := [], alts := [], laidByText := true, laidKinds := [.data, .data, .data, .data, .sentinel, .sentinel, .pinned], laidTests := true, laidLooks := .later }
def AddrBlocksUptoCardSaid : Prop := Claim7.holds Tryd.pinned (.plain (OpenSpec.upto addrBlocksSpec)) addrBlocksUptoCard

/-- THE SECOND FORM's CARD OF 'crossroadslaw03.AddrTold'. -/
def addrToldUptoCard : Claim7 := { stood := { row := addrToldUptoRow, standIns := [], harness := (true, "13e0661b772a76ff4d7697c23898e7f14b49c0dc0eb8698d897466caf84af64a"), looks := true }, kinds := [], alts := [], laidByText := true, laidKinds := [.data, .data, .data, .data, .sentinel, .sentinel, .pinned], laidTests := true, laidLooks := .later }
def AddrToldUptoCardSaid : Prop := Claim7.holds Tryd.pinned (.plain (OpenSpec.upto addrToldSpec)) addrToldUptoCard
end Rows
end Go.Proofs.YtkdhongicibhbaaDoor
