/-
  DERIVED. GIVEN WITH THE SEED: THE CARDS: each row of YtakallenldpkiaaGreatDoorRows.lean that lists a variable, with what it lists TIED to the program's text (the seventh form; the later family's looks); each row that meets fmt, with fmt's text TOLD by the authors' own Lean function (tested against real Go, not proved from fmt's source: count such statements apart). THE CARD IS WHAT COUNTS. Prove the row's statement (the work); the ties are given (YtakallenldpkiaaGreatDoorTie.lean); close each card by the builder's one call (the guide's Derived/Test/ToyasCard.lean, 'card_holds'). Laid BY PROGRAM, IN A SANDBOX (cutbox-door.mjs). By AI agents, Wed Nov 11 2026. No macro, syntax, notation, axiom, sorry.
-/
import Derived.Test.YtakallenldpkiaaGreatDoorRows
import GoSem.ClaimSeven
namespace Go.Proofs.YtakallenldpkiaaGreatDoor
namespace Rows

/-- THE TIED CARD OF 'crossroadslaw27.FibLongest'. -/
def fibLongestCard : Claim7 := { stood := { row := fibLongestRow, standIns := [], harness := (true, "94ce30136716d9884ff55e7fc86bd0f99ba8df5762e9d7c2ab11996fc824eeb8"), looks := false }, kinds := [], alts := [], laidByText := true, laidKinds := [.data, .data, .data], laidTests := true, laidLooks := .later }
def FibLongestCardSaid : Prop := Claim7.holds Tryz.pinned (.plain (OpenSpec.ofChange fibLongestSpec)) fibLongestCard

/-- THE TIED CARD OF 'crossroadslaw27.FibSets'. -/
def fibSetsCard : Claim7 := { stood := { row := fibSetsRow, standIns := [], harness := (true, "94ce30136716d9884ff55e7fc86bd0f99ba8df5762e9d7c2ab11996fc824eeb8"), looks := false }, kinds := [], alts := [], laidByText := true, laidKinds := [.data, .data, .data], laidTests := true, laidLooks := .later }
def FibSetsCardSaid : Prop := Claim7.holds Tryz.pinned (.plain (OpenSpec.ofChange fibSetsSpec)) fibSetsCard

/-- THE SECOND FORM's CARD OF 'crossroadslaw27.FibLongest'. -/
def fibLongestUptoCard : Claim7 := { stood := { row := fibLongestUptoRow, standIns := [], harness := (true, "94ce30136716d9884ff55e7fc86bd0f99ba8df5762e9d7c2ab11996fc824eeb8"), looks := false }, kinds := [], alts := [], laidByText := true, laidKinds := [.data, .data, .data], laidTests := true, laidLooks := .later }
def FibLongestUptoCardSaid : Prop := Claim7.holds Tryz.pinned (.plain (OpenSpec.upto fibLongestSpec)) fibLongestUptoCard

/-- THE SECOND FORM's CARD OF 'crossroadslaw27.FibSets'. -/
def fibSetsUptoCard : Claim7 := { stood := { row := fibSetsUptoRow, standIns := [], harness := (true, "94ce30136716d9884ff55e7fc86bd0f99ba8df5762e9d7c2ab11996fc824eeb8"), looks := false }, kinds := [], alts := [], laidByText := true, laidKinds := [.data, .data, .data], laidTests := true, laidLooks := .later }
def FibSetsUptoCardSaid : Prop := Claim7.holds Tryz.pinned (.plain (OpenSpec.upto fibSetsSpec)) fibSetsUptoCard
end Rows
end Go.Proofs.YtakallenldpkiaaGreatDoor
