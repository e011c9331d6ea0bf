/-
  No cell of these rows narrows 'for every input' (looked for: loops, veiled, ifaces, maps, wideKeys, modest, calm, conditions, laid).
  DERIVED. THE GIVEN ROWS OF THIS SEAT. 3 by the template 'for every input the law returns true; each argument reads behind the call as it read before'; 0 by the template 'total and deterministic' (their statements: YtmfggjebbhdejaaTotals.lean).
  GIVEN WITH THE SEED: the statements are not yours to turn. If you find one false, say at which input.
  Laid BY PROGRAM, IN A SANDBOX (cutbox-rows.mjs): the forced cells as the released guide's own fill.sh prints them over the translation d206ee10df956a32… (all of the seat's roots in one cut). By AI agents, Wed Nov 11 2026. No macro, syntax, notation, axiom, sorry.
-/
import Derived.Test.YtmfggjebbhdejaaChecked
import GoSem.Claim
import GoSem.ClaimJoined
import GoSem.ClaimMapViews
import Derived.JoinedTies
import Derived.KernelRfl
namespace Go.Proofs.Ytmfggjebbhdejaa
/- THE CELL 'sum', in the pinned program and in every row, IS THE sha256 OF THE DUMP (.gsa) THAT YtmfggjebbhdejaaProg.lean LOADS. Nothing in Lean hashes anything: it is a label: what it is worth is what the hold of that sum in a sandbox is worth. -/
noncomputable def Try.pinned : Pinned := { name := "ytmfggjebbhdejaa", sum := "d206ee10df956a32d2002b6ecf6b534746f161e1adacf51463c710e4888a705f", checked := Try.checked }
namespace Rows
def none {H : Type} : Left H := { results := [], args := [] }

/-- 'crossroadslaw25.RibCands': WHATEVER THE INPUT: true; the input reads as it did. -/
def ribCandsSpec : ChangeSpec := { name := "ribCands", fn := fun _ => fun
  | [d1, d2, d3] => { results := [.lit (.bool true)], args := [d1, d2, d3] }
  | _ => none }
def ribCandsRow : OpenClaim := { program := "ytmfggjebbhdejaa", sum := "d206ee10df956a32d2002b6ecf6b534746f161e1adacf51463c710e4888a705f", func := "crossroads/crossroadslaw25.RibCands", spec := "ribCands", inPlace := ["slices.overlaps[crossroads/rib.Cand]"], unfollowed := true, recurses := true, apart := false }
def RibCandsSaid : Prop := ribCandsRow.holds Try.pinned (OpenSpec.ofChange ribCandsSpec)

/-- ITS FALSE NEIGHBOUR: 'it returns false'. Refute it at one input. -/
def ribCandsWrong : ChangeSpec := { name := "ribCands", fn := fun _ => fun
  | [d1, d2, d3] => { results := [.lit (.bool false)], args := [d1, d2, d3] }
  | _ => none }
def RibCandsWrongFalsely : Prop := ribCandsRow.holds Try.pinned (OpenSpec.ofChange ribCandsWrong)

/-- 'crossroadslaw25.RibBest': WHATEVER THE INPUT: true; the input reads as it did. -/
def ribBestSpec : ChangeSpec := { name := "ribBest", fn := fun _ => fun
  | [d1, d2] => { results := [.lit (.bool true)], args := [d1, d2] }
  | _ => none }
def ribBestRow : OpenClaim := { program := "ytmfggjebbhdejaa", sum := "d206ee10df956a32d2002b6ecf6b534746f161e1adacf51463c710e4888a705f", func := "crossroads/crossroadslaw25.RibBest", spec := "ribBest", inPlace := ["slices.overlaps[crossroads/rib.Cand]"], unfollowed := true, recurses := true, apart := false }
def RibBestSaid : Prop := ribBestRow.holds Try.pinned (OpenSpec.ofChange ribBestSpec)

/-- ITS FALSE NEIGHBOUR: 'it returns false'. Refute it at one input. -/
def ribBestWrong : ChangeSpec := { name := "ribBest", fn := fun _ => fun
  | [d1, d2] => { results := [.lit (.bool false)], args := [d1, d2] }
  | _ => none }
def RibBestWrongFalsely : Prop := ribBestRow.holds Try.pinned (OpenSpec.ofChange ribBestWrong)

/-- 'crossroadslaw25.RibOrder': WHATEVER THE INPUT: true; the input reads as it did. -/
def ribOrderSpec : ChangeSpec := { name := "ribOrder", fn := fun _ => fun
  | [d1, d2] => { results := [.lit (.bool true)], args := [d1, d2] }
  | _ => none }
def ribOrderRow : OpenClaim := { program := "ytmfggjebbhdejaa", sum := "d206ee10df956a32d2002b6ecf6b534746f161e1adacf51463c710e4888a705f", func := "crossroads/crossroadslaw25.RibOrder", spec := "ribOrder", inPlace := ["slices.overlaps[crossroads/rib.Cand]"], unfollowed := true, recurses := true, apart := false }
def RibOrderSaid : Prop := ribOrderRow.holds Try.pinned (OpenSpec.ofChange ribOrderSpec)

/-- ITS FALSE NEIGHBOUR: 'it returns false'. Refute it at one input. -/
def ribOrderWrong : ChangeSpec := { name := "ribOrder", fn := fun _ => fun
  | [d1, d2] => { results := [.lit (.bool false)], args := [d1, d2] }
  | _ => none }
def RibOrderWrongFalsely : Prop := ribOrderRow.holds Try.pinned (OpenSpec.ofChange ribOrderWrong)

/- THE SECOND FORM. 'bulk': how many values and letters a reading holds, each counted each time it is reached (what is shared counts as often as it is met; a slice's spare places count too). A statement '..UptoSaid' is the law's where the arguments, and the package variables that the reading takes, are together of bulk at most 1048576: NARROWER than '..Said'. Prove '..Said' where nothing that the law and all that it calls make is longer than what came in: it says more and counts as full. Else prove '..UptoSaid'. A law counts once. -/
mutual
def uptoBulk {H : Type} : DataW H → Nat
  | .lit (.string bytes) => bytes.length + 1
  | .lit _ => 1
  | .nil => 1
  | .ptr d => uptoBulk d + 1
  | .slice elems spare => uptoBulkAll elems + uptoBulkAll spare + 1
  | .agg parts => uptoBulkAll parts + 1
  | .iface _ d => uptoBulk d + 1
  | .map entries => uptoBulkEntries entries + 1
  | .held _ => 1
def uptoBulkAll {H : Type} : List (DataW H) → Nat
  | [] => 0
  | d :: r => uptoBulk d + uptoBulkAll r
def uptoBulkEntries {H : Type} : List (Lit × DataW H) → Nat
  | [] => 0
  | x :: r => uptoBulkEntry x + uptoBulkEntries r
def uptoBulkEntry {H : Type} : Lit × DataW H → Nat
  | (.string bytes, d) => bytes.length + uptoBulk d + 1
  | (_, d) => uptoBulk d + 1
 end
def uptoSmall : (H : Type) → List (DataW H) → Bool := fun _ ds => decide (uptoBulkAll ds ≤ 1048576)
def OpenSpec.upto (s : _root_.Go.ChangeSpec) : _root_.Go.OpenSpec := { _root_.Go.OpenSpec.ofChange s with cond := some uptoSmall }

/-- 'crossroadslaw25.RibCands', WHERE WHAT IT READS IS OF BULK AT MOST 1048576: true; the input reads as it did. -/
def ribCandsUptoRow : OpenClaim := { program := "ytmfggjebbhdejaa", sum := "d206ee10df956a32d2002b6ecf6b534746f161e1adacf51463c710e4888a705f", func := "crossroads/crossroadslaw25.RibCands", spec := "ribCands", inPlace := ["slices.overlaps[crossroads/rib.Cand]"], unfollowed := true, recurses := true, apart := false, narrowed := true }
def RibCandsUptoSaid : Prop := ribCandsUptoRow.holds Try.pinned (OpenSpec.upto ribCandsSpec)

/-- 'crossroadslaw25.RibBest', WHERE WHAT IT READS IS OF BULK AT MOST 1048576: true; the input reads as it did. -/
def ribBestUptoRow : OpenClaim := { program := "ytmfggjebbhdejaa", sum := "d206ee10df956a32d2002b6ecf6b534746f161e1adacf51463c710e4888a705f", func := "crossroads/crossroadslaw25.RibBest", spec := "ribBest", inPlace := ["slices.overlaps[crossroads/rib.Cand]"], unfollowed := true, recurses := true, apart := false, narrowed := true }
def RibBestUptoSaid : Prop := ribBestUptoRow.holds Try.pinned (OpenSpec.upto ribBestSpec)

/-- 'crossroadslaw25.RibOrder', WHERE WHAT IT READS IS OF BULK AT MOST 1048576: true; the input reads as it did. -/
def ribOrderUptoRow : OpenClaim := { program := "ytmfggjebbhdejaa", sum := "d206ee10df956a32d2002b6ecf6b534746f161e1adacf51463c710e4888a705f", func := "crossroads/crossroadslaw25.RibOrder", spec := "ribOrder", inPlace := ["slices.overlaps[crossroads/rib.Cand]"], unfollowed := true, recurses := true, apart := false, narrowed := true }
def RibOrderUptoSaid : Prop := ribOrderUptoRow.holds Try.pinned (OpenSpec.upto ribOrderSpec)

end Rows
end Go.Proofs.Ytmfggjebbhdejaa
