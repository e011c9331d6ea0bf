/-
  DERIVED. GIVEN WITH THE SEED: THE CARDS: each row of YtakallenldpkiaaDoorRows.lean that lists a variable, with what it lists TIED to the program's text (the seventh form; the later family's looks); each row that meets fmt, with fmt's text TOLD by the authors' own Lean function (tested against real Go, not proved from fmt's source: count such statements apart). THE CARD IS WHAT COUNTS. Prove the row's statement (the work); the ties are given (YtakallenldpkiaaDoorTie.lean); close each card by the builder's one call (the guide's Derived/Test/ToyasCard.lean, 'card_holds'). Laid BY PROGRAM, IN A SANDBOX (cutbox-door.mjs). By AI agents, Wed Nov 11 2026. No macro, syntax, notation, axiom, sorry.
-/
import Derived.Test.YtakallenldpkiaaDoorRows
import GoSem.ClaimSeven
namespace Go.Proofs.YtakallenldpkiaaDoor
namespace Rows

/-- THE TIED CARD OF 'crossroadslaw27.FibOrder'. -/
def fibOrderCard : Claim7 := { stood := { row := fibOrderRow, standIns := [], harness := (true, "f9edb2f61a34d92882ab54837da8aa741eb13132480c1a73f83c0cf9292e7223"), looks := false }, kinds := [], alts := [], laidByText := true, laidKinds := [.data, .data, .data], laidTests := true, laidLooks := .later }
def FibOrderCardSaid : Prop := Claim7.holds Tryd.pinned (.plain (OpenSpec.ofChange fibOrderSpec)) fibOrderCard

/-- THE TIED CARD OF 'crossroadslaw27.FibNil'. -/
def fibNilCard : Claim7 := { stood := { row := fibNilRow, standIns := [], harness := (true, "f9edb2f61a34d92882ab54837da8aa741eb13132480c1a73f83c0cf9292e7223"), looks := false }, kinds := [], alts := [], laidByText := true, laidKinds := [.data, .data, .data], laidTests := true, laidLooks := .later }
def FibNilCardSaid : Prop := Claim7.holds Tryd.pinned (.plain (OpenSpec.ofChange fibNilSpec)) fibNilCard

/-- THE SECOND FORM's CARD OF 'crossroadslaw27.FibOrder'. -/
def fibOrderUptoCard : Claim7 := { stood := { row := fibOrderUptoRow, standIns := [], harness := (true, "f9edb2f61a34d92882ab54837da8aa741eb13132480c1a73f83c0cf9292e7223"), looks := false }, kinds := [], alts := [], laidByText := true, laidKinds := [.data, .data, .data], laidTests := true, laidLooks := .later }
def FibOrderUptoCardSaid : Prop := Claim7.holds Tryd.pinned (.plain (OpenSpec.upto fibOrderSpec)) fibOrderUptoCard

/-- THE SECOND FORM's CARD OF 'crossroadslaw27.FibNil'. -/
def fibNilUptoCard : Claim7 := { stood := { row := fibNilUptoRow, standIns := [], harness := (true, "f9edb2f61a34d92882ab54837da8aa741eb13132480c1a73f83c0cf9292e7223"), looks := false }, kinds := [], alts := [], laidByText := true, laidKinds := [.data, .data, .data], laidTests := true, laidLooks := .later }
def FibNilUptoCardSaid : Prop := Claim7.holds Tryd.pinned (.plain (OpenSpec.upto fibNilSpec)) fibNilUptoCard
end Rows
end Go.Proofs.YtakallenldpkiaaDoor
