/-
  No cell of these rows narrows 'for every input' (looked for: loops, veiled, ifaces, maps, wideKeys, modest, calm, conditions, laid).
  DERIVED. THE GIVEN ROWS OF THIS SEAT. 4 by the template 'for every input the law returns true; each argument reads behind the call as it read before'; 0 by the template 'total and deterministic' (their statements: YtbgnflbbebnagaaTotals.lean).
  GIVEN WITH THE SEED: the statements are not yours to turn. If you find one false, say at which input.
  Laid BY PROGRAM, IN A SANDBOX (cutbox-rows.mjs): the forced cells as the released guide's own fill.sh prints them over the translation 2b051a90956616b3… (all of the seat's roots in one cut). By AI agents, Wed Nov 11 2026. No macro, syntax, notation, axiom, sorry.
-/
import Derived.Test.YtbgnflbbebnagaaChecked
import GoSem.Claim
import GoSem.ClaimJoined
import GoSem.ClaimMapViews
import Derived.JoinedTies
import Derived.KernelRfl
namespace Go.Proofs.Ytbgnflbbebnagaa
/- THE CELL 'sum', in the pinned program and in every row, IS THE sha256 OF THE DUMP (.gsa) THAT YtbgnflbbebnagaaProg.lean LOADS. Nothing in Lean hashes anything: it is a label: what it is worth is what the hold of that sum in a sandbox is worth. -/
noncomputable def Try.pinned : Pinned := { name := "ytbgnflbbebnagaa", sum := "2b051a90956616b3c55657e749385906fa1004fc23dff74f536a525efd53880b", checked := Try.checked }
namespace Rows
def none {H : Type} : Left H := { results := [], args := [] }

/-- 'crossroadslaw15.ElectTold': WHATEVER THE INPUT: true; the input reads as it did. -/
def electToldSpec : ChangeSpec := { name := "electTold", fn := fun _ => fun
  | [d1, d2] => { results := [.lit (.bool true)], args := [d1, d2] }
  | _ => none }
def electToldRow : OpenClaim := { program := "ytbgnflbbebnagaa", sum := "2b051a90956616b3c55657e749385906fa1004fc23dff74f536a525efd53880b", func := "crossroads/crossroadslaw15.ElectTold", spec := "electTold", unfollowed := true, recurses := true, apart := false }
def ElectToldSaid : Prop := electToldRow.holds Try.pinned (OpenSpec.ofChange electToldSpec)

/-- ITS FALSE NEIGHBOUR: 'it returns false'. Refute it at one input. -/
def electToldWrong : ChangeSpec := { name := "electTold", fn := fun _ => fun
  | [d1, d2] => { results := [.lit (.bool false)], args := [d1, d2] }
  | _ => none }
def ElectToldWrongFalsely : Prop := electToldRow.holds Try.pinned (OpenSpec.ofChange electToldWrong)

/-- 'crossroadslaw15.ElectFirst': WHATEVER THE INPUT: true; the input reads as it did. -/
def electFirstSpec : ChangeSpec := { name := "electFirst", fn := fun _ => fun
  | [d1, d2] => { results := [.lit (.bool true)], args := [d1, d2] }
  | _ => none }
def electFirstRow : OpenClaim := { program := "ytbgnflbbebnagaa", sum := "2b051a90956616b3c55657e749385906fa1004fc23dff74f536a525efd53880b", func := "crossroads/crossroadslaw15.ElectFirst", spec := "electFirst", unfollowed := true, recurses := true, apart := false }
def ElectFirstSaid : Prop := electFirstRow.holds Try.pinned (OpenSpec.ofChange electFirstSpec)

/-- ITS FALSE NEIGHBOUR: 'it returns false'. Refute it at one input. -/
def electFirstWrong : ChangeSpec := { name := "electFirst", fn := fun _ => fun
  | [d1, d2] => { results := [.lit (.bool false)], args := [d1, d2] }
  | _ => none }
def ElectFirstWrongFalsely : Prop := electFirstRow.holds Try.pinned (OpenSpec.ofChange electFirstWrong)

/-- 'crossroadslaw15.ElectSettle': WHATEVER THE INPUT: true; the input reads as it did. -/
def electSettleSpec : ChangeSpec := { name := "electSettle", fn := fun _ => fun
  | [d] => { results := [.lit (.bool true)], args := [d] }
  | _ => none }
def electSettleRow : OpenClaim := { program := "ytbgnflbbebnagaa", sum := "2b051a90956616b3c55657e749385906fa1004fc23dff74f536a525efd53880b", func := "crossroads/crossroadslaw15.ElectSettle", spec := "electSettle", unfollowed := true, recurses := true, apart := false }
def ElectSettleSaid : Prop := electSettleRow.holds Try.pinned (OpenSpec.ofChange electSettleSpec)

/-- ITS FALSE NEIGHBOUR: 'it returns false'. Refute it at one input. -/
def electSettleWrong : ChangeSpec := { name := "electSettle", fn := fun _ => fun
  | [d] => { results := [.lit (.bool false)], args := [d] }
  | _ => none }
def ElectSettleWrongFalsely : Prop := electSettleRow.holds Try.pinned (OpenSpec.ofChange electSettleWrong)

/-- 'crossroadslaw15.ElectSteady': WHATEVER THE INPUT: true; the input reads as it did. -/
def electSteadySpec : ChangeSpec := { name := "electSteady", fn := fun _ => fun
  | [d1, d2, d3] => { results := [.lit (.bool true)], args := [d1, d2, d3] }
  | _ => none }
def electSteadyRow : OpenClaim := { program := "ytbgnflbbebnagaa", sum := "2b051a90956616b3c55657e749385906fa1004fc23dff74f536a525efd53880b", func := "crossroads/crossroadslaw15.ElectSteady", spec := "electSteady", unfollowed := true, recurses := true, apart := false }
def ElectSteadySaid : Prop := electSteadyRow.holds Try.pinned (OpenSpec.ofChange electSteadySpec)

/-- ITS FALSE NEIGHBOUR: 'it returns false'. Refute it at one input. -/
def electSteadyWrong : ChangeSpec := { name := "electSteady", fn := fun _ => fun
  | [d1, d2, d3] => { results := [.lit (.bool false)], args := [d1, d2, d3] }
  | _ => none }
def ElectSteadyWrongFalsely : Prop := electSteadyRow.holds Try.pinned (OpenSpec.ofChange electSteadyWrong)

/- THE SECOND FORM. 'bulk': how many values and letters a reading holds, each counted each time it is reached (what is shared counts as often as it is met; a slice's spare places count too). A statement '..UptoSaid' is the law's where the arguments, and the package variables that the reading takes, are together of bulk at most 1048576: NARROWER than '..Said'. Prove '..Said' where nothing that the law and all that it calls make is longer than what came in: it says more and counts as full. Else prove '..UptoSaid'. A law counts once. -/
mutual
def uptoBulk {H : Type} : DataW H → Nat
  | .lit (.string bytes) => bytes.length + 1
  | .lit _ => 1
  | .nil => 1
  | .ptr d => uptoBulk d + 1
  | .slice elems spare => uptoBulkAll elems + uptoBulkAll spare + 1
  | .agg parts => uptoBulkAll parts + 1
  | .iface _ d => uptoBulk d + 1
  | .map entries => uptoBulkEntries entries + 1
  | .held _ => 1
def uptoBulkAll {H : Type} : List (DataW H) → Nat
  | [] => 0
  | d :: r => uptoBulk d + uptoBulkAll r
def uptoBulkEntries {H : Type} : List (Lit × DataW H) → Nat
  | [] => 0
  | x :: r => uptoBulkEntry x + uptoBulkEntries r
def uptoBulkEntry {H : Type} : Lit × DataW H → Nat
  | (.string bytes, d) => bytes.length + uptoBulk d + 1
  | (_, d) => uptoBulk d + 1
 end
def uptoSmall : (H : Type) → List (DataW H) → Bool := fun _ ds => decide (uptoBulkAll ds ≤ 1048576)
def OpenSpec.upto (s : _root_.Go.ChangeSpec) : _root_.Go.OpenSpec := { _root_.Go.OpenSpec.ofChange s with cond := some uptoSmall }

/-- 'crossroadslaw15.ElectTold', WHERE WHAT IT READS IS OF BULK AT MOST 1048576: true; the input reads as it did. -/
def electToldUptoRow : OpenClaim := { program := "ytbgnflbbebnagaa", sum := "2b051a90956616b3c55657e749385906fa1004fc23dff74f536a525efd53880b", func := "crossroads/crossroadslaw15.ElectTold", spec := "electTold", unfollowed := true, recurses := true, apart := false, narrowed := true }
def ElectToldUptoSaid : Prop := electToldUptoRow.holds Try.pinned (OpenSpec.upto electToldSpec)

/-- 'crossroadslaw15.ElectFirst', WHERE WHAT IT READS IS OF BULK AT MOST 1048576: true; the input reads as it did. -/
def electFirstUptoRow : OpenClaim := { program := "ytbgnflbbebnagaa", sum := "2b051a90956616b3c55657e749385906fa1004fc23dff74f536a525efd53880b", func := "crossroads/crossroadslaw15.ElectFirst", spec := "electFirst", unfollowed := true, recurses := true, apart := false, narrowed := true }
def ElectFirstUptoSaid : Prop := electFirstUptoRow.holds Try.pinned (OpenSpec.upto electFirstSpec)

/-- 'crossroadslaw15.ElectSettle', WHERE WHAT IT READS IS OF BULK AT MOST 1048576: true; the input reads as it did. -/
def electSettleUptoRow : OpenClaim := { program := "ytbgnflbbebnagaa", sum := "2b051a90956616b3c55657e749385906fa1004fc23dff74f536a525efd53880b", func := "crossroads/crossroadslaw15.ElectSettle", spec := "electSettle", unfollowed := true, recurses := true, apart := false, narrowed := true }
def ElectSettleUptoSaid : Prop := electSettleUptoRow.holds Try.pinned (OpenSpec.upto electSettleSpec)

/-- 'crossroadslaw15.ElectSteady', WHERE WHAT IT READS IS OF BULK AT MOST 1048576: true; the input reads as it did. -/
def electSteadyUptoRow : OpenClaim := { program := "ytbgnflbbebnagaa", sum := "2b051a90956616b3c55657e749385906fa1004fc23dff74f536a525efd53880b", func := "crossroads/crossroadslaw15.ElectSteady", spec := "electSteady", unfollowed := true, recurses := true, apart := false, narrowed := true }
def ElectSteadyUptoSaid : Prop := electSteadyUptoRow.holds Try.pinned (OpenSpec.upto electSteadySpec)

end Rows
end Go.Proofs.Ytbgnflbbebnagaa
