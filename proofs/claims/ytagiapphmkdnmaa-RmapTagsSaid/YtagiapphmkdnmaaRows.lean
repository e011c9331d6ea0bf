/-
  No cell of these rows narrows 'for every input' (looked for: loops, veiled, ifaces, maps, wideKeys, modest, calm, conditions, laid).
  DERIVED. THE GIVEN ROWS OF THIS SEAT. 4 by the template 'for every input the law returns true; each argument reads behind the call as it read before'; 0 by the template 'total and deterministic' (their statements: YtagiapphmkdnmaaTotals.lean).
  GIVEN WITH THE SEED: the statements are not yours to turn. If you find one false, say at which input.
  Laid BY PROGRAM, IN A SANDBOX (cutbox-rows.mjs): the forced cells as the released guide's own fill.sh prints them over the translation fb4efd95043122f0… (all of the seat's roots in one cut). By AI agents, Wed Nov 11 2026. No macro, syntax, notation, axiom, sorry.
-/
import Derived.Test.YtagiapphmkdnmaaChecked
import GoSem.Claim
import GoSem.ClaimJoined
import GoSem.ClaimMapViews
import Derived.JoinedTies
import Derived.KernelRfl
namespace Go.Proofs.Ytagiapphmkdnmaa
/- THE CELL 'sum', in the pinned program and in every row, IS THE sha256 OF THE DUMP (.gsa) THAT YtagiapphmkdnmaaProg.lean LOADS. Nothing in Lean hashes anything: it is a label: what it is worth is what the hold of that sum in a sandbox is worth. -/
noncomputable def Try.pinned : Pinned := { name := "ytagiapphmkdnmaa", sum := "fb4efd95043122f0134aab5b620edd0adadc96641ee210075359cf2624659cba", checked := Try.checked }
namespace Rows
def none {H : Type} : Left H := { results := [], args := [] }

/-- 'crossroadslaw08.RmapTags': WHATEVER THE INPUT: true; the input reads as it did. -/
def rmapTagsSpec : ChangeSpec := { name := "rmapTags", fn := fun _ => fun
  | [d1, d2, d3] => { results := [.lit (.bool true)], args := [d1, d2, d3] }
  | _ => none }
def rmapTagsRow : OpenClaim := { program := "ytagiapphmkdnmaa", sum := "fb4efd95043122f0134aab5b620edd0adadc96641ee210075359cf2624659cba", func := "crossroads/crossroadslaw08.RmapTags", spec := "rmapTags", unfollowed := true, recurses := true, apart := false }
def RmapTagsSaid : Prop := rmapTagsRow.holds Try.pinned (OpenSpec.ofChange rmapTagsSpec)

/-- ITS FALSE NEIGHBOUR: 'it returns false'. Refute it at one input. -/
def rmapTagsWrong : ChangeSpec := { name := "rmapTags", fn := fun _ => fun
  | [d1, d2, d3] => { results := [.lit (.bool false)], args := [d1, d2, d3] }
  | _ => none }
def RmapTagsWrongFalsely : Prop := rmapTagsRow.holds Try.pinned (OpenSpec.ofChange rmapTagsWrong)

/-- 'crossroadslaw08.RmapClause': WHATEVER THE INPUT: true; the input reads as it did. -/
def rmapClauseSpec : ChangeSpec := { name := "rmapClause", fn := fun _ => fun
  | [d1, d2] => { results := [.lit (.bool true)], args := [d1, d2] }
  | _ => none }
def rmapClauseRow : OpenClaim := { program := "ytagiapphmkdnmaa", sum := "fb4efd95043122f0134aab5b620edd0adadc96641ee210075359cf2624659cba", func := "crossroads/crossroadslaw08.RmapClause", spec := "rmapClause", unfollowed := true, recurses := true, apart := false }
def RmapClauseSaid : Prop := rmapClauseRow.holds Try.pinned (OpenSpec.ofChange rmapClauseSpec)

/-- ITS FALSE NEIGHBOUR: 'it returns false'. Refute it at one input. -/
def rmapClauseWrong : ChangeSpec := { name := "rmapClause", fn := fun _ => fun
  | [d1, d2] => { results := [.lit (.bool false)], args := [d1, d2] }
  | _ => none }
def RmapClauseWrongFalsely : Prop := rmapClauseRow.holds Try.pinned (OpenSpec.ofChange rmapClauseWrong)

/-- 'crossroadslaw08.RmapEval': WHATEVER THE INPUT: true; the input reads as it did. -/
def rmapEvalSpec : ChangeSpec := { name := "rmapEval", fn := fun _ => fun
  | [d1, d2, d3] => { results := [.lit (.bool true)], args := [d1, d2, d3] }
  | _ => none }
def rmapEvalRow : OpenClaim := { program := "ytagiapphmkdnmaa", sum := "fb4efd95043122f0134aab5b620edd0adadc96641ee210075359cf2624659cba", func := "crossroads/crossroadslaw08.RmapEval", spec := "rmapEval", unfollowed := true, recurses := true, apart := false }
def RmapEvalSaid : Prop := rmapEvalRow.holds Try.pinned (OpenSpec.ofChange rmapEvalSpec)

/-- ITS FALSE NEIGHBOUR: 'it returns false'. Refute it at one input. -/
def rmapEvalWrong : ChangeSpec := { name := "rmapEval", fn := fun _ => fun
  | [d1, d2, d3] => { results := [.lit (.bool false)], args := [d1, d2, d3] }
  | _ => none }
def RmapEvalWrongFalsely : Prop := rmapEvalRow.holds Try.pinned (OpenSpec.ofChange rmapEvalWrong)

/-- 'crossroadslaw08.RmapFilter': WHATEVER THE INPUT: true; the input reads as it did. -/
def rmapFilterSpec : ChangeSpec := { name := "rmapFilter", fn := fun _ => fun
  | [d1, d2] => { results := [.lit (.bool true)], args := [d1, d2] }
  | _ => none }
def rmapFilterRow : OpenClaim := { program := "ytagiapphmkdnmaa", sum := "fb4efd95043122f0134aab5b620edd0adadc96641ee210075359cf2624659cba", func := "crossroads/crossroadslaw08.RmapFilter", spec := "rmapFilter", unfollowed := true, recurses := true, apart := false }
def RmapFilterSaid : Prop := rmapFilterRow.holds Try.pinned (OpenSpec.ofChange rmapFilterSpec)

/-- ITS FALSE NEIGHBOUR: 'it returns false'. Refute it at one input. -/
def rmapFilterWrong : ChangeSpec := { name := "rmapFilter", fn := fun _ => fun
  | [d1, d2] => { results := [.lit (.bool false)], args := [d1, d2] }
  | _ => none }
def RmapFilterWrongFalsely : Prop := rmapFilterRow.holds Try.pinned (OpenSpec.ofChange rmapFilterWrong)

/- THE SECOND FORM. 'bulk': how many values and letters a reading holds, each counted each time it is reached (what is shared counts as often as it is met; a slice's spare places count too). A statement '..UptoSaid' is the law's where the arguments, and the package variables that the reading takes, are together of bulk at most 1048576: NARROWER than '..Said'. Prove '..Said' where nothing that the law and all that it calls make is longer than what came in: it says more and counts as full. Else prove '..UptoSaid'. A law counts once. -/
mutual
def uptoBulk {H : Type} : DataW H → Nat
  | .lit (.string bytes) => bytes.length + 1
  | .lit _ => 1
  | .nil => 1
  | .ptr d => uptoBulk d + 1
  | .slice elems spare => uptoBulkAll elems + uptoBulkAll spare + 1
  | .agg parts => uptoBulkAll parts + 1
  | .iface _ d => uptoBulk d + 1
  | .map entries => uptoBulkEntries entries + 1
  | .held _ => 1
def uptoBulkAll {H : Type} : List (DataW H) → Nat
  | [] => 0
  | d :: r => uptoBulk d + uptoBulkAll r
def uptoBulkEntries {H : Type} : List (Lit × DataW H) → Nat
  | [] => 0
  | x :: r => uptoBulkEntry x + uptoBulkEntries r
def uptoBulkEntry {H : Type} : Lit × DataW H → Nat
  | (.string bytes, d) => bytes.length + uptoBulk d + 1
  | (_, d) => uptoBulk d + 1
 end
def uptoSmall : (H : Type) → List (DataW H) → Bool := fun _ ds => decide (uptoBulkAll ds ≤ 1048576)
def OpenSpec.upto (s : _root_.Go.ChangeSpec) : _root_.Go.OpenSpec := { _root_.Go.OpenSpec.ofChange s with cond := some uptoSmall }

/-- 'crossroadslaw08.RmapTags', WHERE WHAT IT READS IS OF BULK AT MOST 1048576: true; the input reads as it did. -/
def rmapTagsUptoRow : OpenClaim := { program := "ytagiapphmkdnmaa", sum := "fb4efd95043122f0134aab5b620edd0adadc96641ee210075359cf2624659cba", func := "crossroads/crossroadslaw08.RmapTags", spec := "rmapTags", unfollowed := true, recurses := true, apart := false, narrowed := true }
def RmapTagsUptoSaid : Prop := rmapTagsUptoRow.holds Try.pinned (OpenSpec.upto rmapTagsSpec)

/-- 'crossroadslaw08.RmapClause', WHERE WHAT IT READS IS OF BULK AT MOST 1048576: true; the input reads as it did. -/
def rmapClauseUptoRow : OpenClaim := { program := "ytagiapphmkdnmaa", sum := "fb4efd95043122f0134aab5b620edd0adadc96641ee210075359cf2624659cba", func := "crossroads/crossroadslaw08.RmapClause", spec := "rmapClause", unfollowed := true, recurses := true, apart := false, narrowed := true }
def RmapClauseUptoSaid : Prop := rmapClauseUptoRow.holds Try.pinned (OpenSpec.upto rmapClauseSpec)

/-- 'crossroadslaw08.RmapEval', WHERE WHAT IT READS IS OF BULK AT MOST 1048576: true; the input reads as it did. -/
def rmapEvalUptoRow : OpenClaim := { program := "ytagiapphmkdnmaa", sum := "fb4efd95043122f0134aab5b620edd0adadc96641ee210075359cf2624659cba", func := "crossroads/crossroadslaw08.RmapEval", spec := "rmapEval", unfollowed := true, recurses := true, apart := false, narrowed := true }
def RmapEvalUptoSaid : Prop := rmapEvalUptoRow.holds Try.pinned (OpenSpec.upto rmapEvalSpec)

/-- 'crossroadslaw08.RmapFilter', WHERE WHAT IT READS IS OF BULK AT MOST 1048576: true; the input reads as it did. -/
def rmapFilterUptoRow : OpenClaim := { program := "ytagiapphmkdnmaa", sum := "fb4efd95043122f0134aab5b620edd0adadc96641ee210075359cf2624659cba", func := "crossroads/crossroadslaw08.RmapFilter", spec := "rmapFilter", unfollowed := true, recurses := true, apart := false, narrowed := true }
def RmapFilterUptoSaid : Prop := rmapFilterUptoRow.holds Try.pinned (OpenSpec.upto rmapFilterSpec)

end Rows
end Go.Proofs.Ytagiapphmkdnmaa
