/-
  No cell of these rows narrows 'for every input' (looked for: loops, veiled, ifaces, maps, wideKeys, modest, calm, conditions, laid).
  DERIVED. THE GIVEN ROWS OF THIS SEAT. 5 by the template 'for every input the law returns true; each argument reads behind the call as it read before'; 0 by the template 'total and deterministic' (their statements: YtlemcljcmfphcaaTotals.lean).
  GIVEN WITH THE SEED: the statements are not yours to turn. If you find one false, say at which input.
  Laid BY PROGRAM, IN A SANDBOX (cutbox-rows.mjs): the forced cells as the released guide's own fill.sh prints them over the translation ea86a95e412ed019… (all of the seat's roots in one cut). By AI agents, Wed Nov 11 2026. No macro, syntax, notation, axiom, sorry.
-/
import Derived.Test.YtlemcljcmfphcaaChecked
import GoSem.Claim
import GoSem.ClaimJoined
import GoSem.ClaimMapViews
import Derived.JoinedTies
import Derived.KernelRfl
namespace Go.Proofs.Ytlemcljcmfphcaa
/- THE CELL 'sum', in the pinned program and in every row, IS THE sha256 OF THE DUMP (.gsa) THAT YtlemcljcmfphcaaProg.lean LOADS. Nothing in Lean hashes anything: it is a label: what it is worth is what the hold of that sum in a sandbox is worth. -/
noncomputable def Try.pinned : Pinned := { name := "ytlemcljcmfphcaa", sum := "ea86a95e412ed0199f5063a111e9bdef92338ebcfefe33a54e191fb304f7bef8", checked := Try.checked }
namespace Rows
def none {H : Type} : Left H := { results := [], args := [] }

/-- 'crossroadslaw28.RedistProvider': WHATEVER THE INPUT: true; the input reads as it did. -/
def redistProviderSpec : ChangeSpec := { name := "redistProvider", fn := fun _ => fun
  | [d1, d2] => { results := [.lit (.bool true)], args := [d1, d2] }
  | _ => none }
def redistProviderRow : OpenClaim := { program := "ytlemcljcmfphcaa", sum := "ea86a95e412ed0199f5063a111e9bdef92338ebcfefe33a54e191fb304f7bef8", func := "crossroads/crossroadslaw28.RedistProvider", spec := "redistProvider", inPlace := ["slices.overlaps[crossroads/api.Prefix]", "slices.overlaps[crossroads/redist.Ext]"], unfollowed := true, recurses := true, apart := false }
def RedistProviderSaid : Prop := redistProviderRow.holds Try.pinned (OpenSpec.ofChange redistProviderSpec)

/-- ITS FALSE NEIGHBOUR: 'it returns false'. Refute it at one input. -/
def redistProviderWrong : ChangeSpec := { name := "redistProvider", fn := fun _ => fun
  | [d1, d2] => { results := [.lit (.bool false)], args := [d1, d2] }
  | _ => none }
def RedistProviderWrongFalsely : Prop := redistProviderRow.holds Try.pinned (OpenSpec.ofChange redistProviderWrong)

/-- 'crossroadslaw28.RedistPlays': WHATEVER THE INPUT: true; the input reads as it did. -/
def redistPlaysSpec : ChangeSpec := { name := "redistPlays", fn := fun _ => fun
  | [d1, d2] => { results := [.lit (.bool true)], args := [d1, d2] }
  | _ => none }
def redistPlaysRow : OpenClaim := { program := "ytlemcljcmfphcaa", sum := "ea86a95e412ed0199f5063a111e9bdef92338ebcfefe33a54e191fb304f7bef8", func := "crossroads/crossroadslaw28.RedistPlays", spec := "redistPlays", inPlace := ["slices.overlaps[crossroads/api.Prefix]", "slices.overlaps[crossroads/redist.Ext]"], unfollowed := true, recurses := true, apart := false }
def RedistPlaysSaid : Prop := redistPlaysRow.holds Try.pinned (OpenSpec.ofChange redistPlaysSpec)

/-- ITS FALSE NEIGHBOUR: 'it returns false'. Refute it at one input. -/
def redistPlaysWrong : ChangeSpec := { name := "redistPlays", fn := fun _ => fun
  | [d1, d2] => { results := [.lit (.bool false)], args := [d1, d2] }
  | _ => none }
def RedistPlaysWrongFalsely : Prop := redistPlaysRow.holds Try.pinned (OpenSpec.ofChange redistPlaysWrong)

/-- 'crossroadslaw28.RedistSweep': WHATEVER THE INPUT: true; the input reads as it did. -/
def redistSweepSpec : ChangeSpec := { name := "redistSweep", fn := fun _ => fun
  | [d1, d2, d3] => { results := [.lit (.bool true)], args := [d1, d2, d3] }
  | _ => none }
def redistSweepRow : OpenClaim := { program := "ytlemcljcmfphcaa", sum := "ea86a95e412ed0199f5063a111e9bdef92338ebcfefe33a54e191fb304f7bef8", func := "crossroads/crossroadslaw28.RedistSweep", spec := "redistSweep", inPlace := ["slices.overlaps[crossroads/api.Prefix]", "slices.overlaps[crossroads/redist.Ext]"], unfollowed := true, recurses := true, apart := false }
def RedistSweepSaid : Prop := redistSweepRow.holds Try.pinned (OpenSpec.ofChange redistSweepSpec)

/-- ITS FALSE NEIGHBOUR: 'it returns false'. Refute it at one input. -/
def redistSweepWrong : ChangeSpec := { name := "redistSweep", fn := fun _ => fun
  | [d1, d2, d3] => { results := [.lit (.bool false)], args := [d1, d2, d3] }
  | _ => none }
def RedistSweepWrongFalsely : Prop := redistSweepRow.holds Try.pinned (OpenSpec.ofChange redistSweepWrong)

/-- 'crossroadslaw28.RedistEcho': WHATEVER THE INPUT: true; the input reads as it did. -/
def redistEchoSpec : ChangeSpec := { name := "redistEcho", fn := fun _ => fun
  | [d1, d2, d3] => { results := [.lit (.bool true)], args := [d1, d2, d3] }
  | _ => none }
def redistEchoRow : OpenClaim := { program := "ytlemcljcmfphcaa", sum := "ea86a95e412ed0199f5063a111e9bdef92338ebcfefe33a54e191fb304f7bef8", func := "crossroads/crossroadslaw28.RedistEcho", spec := "redistEcho", inPlace := ["slices.overlaps[crossroads/api.Prefix]", "slices.overlaps[crossroads/redist.Ext]"], unfollowed := true, recurses := true, apart := false }
def RedistEchoSaid : Prop := redistEchoRow.holds Try.pinned (OpenSpec.ofChange redistEchoSpec)

/-- ITS FALSE NEIGHBOUR: 'it returns false'. Refute it at one input. -/
def redistEchoWrong : ChangeSpec := { name := "redistEcho", fn := fun _ => fun
  | [d1, d2, d3] => { results := [.lit (.bool false)], args := [d1, d2, d3] }
  | _ => none }
def RedistEchoWrongFalsely : Prop := redistEchoRow.holds Try.pinned (OpenSpec.ofChange redistEchoWrong)

/-- 'crossroadslaw28.RedistTwice': WHATEVER THE INPUT: true; the input reads as it did. -/
def redistTwiceSpec : ChangeSpec := { name := "redistTwice", fn := fun _ => fun
  | [d1, d2, d3] => { results := [.lit (.bool true)], args := [d1, d2, d3] }
  | _ => none }
def redistTwiceRow : OpenClaim := { program := "ytlemcljcmfphcaa", sum := "ea86a95e412ed0199f5063a111e9bdef92338ebcfefe33a54e191fb304f7bef8", func := "crossroads/crossroadslaw28.RedistTwice", spec := "redistTwice", inPlace := ["slices.overlaps[crossroads/api.Prefix]", "slices.overlaps[crossroads/redist.Ext]"], unfollowed := true, recurses := true, apart := false }
def RedistTwiceSaid : Prop := redistTwiceRow.holds Try.pinned (OpenSpec.ofChange redistTwiceSpec)

/-- ITS FALSE NEIGHBOUR: 'it returns false'. Refute it at one input. -/
def redistTwiceWrong : ChangeSpec := { name := "redistTwice", fn := fun _ => fun
  | [d1, d2, d3] => { results := [.lit (.bool false)], args := [d1, d2, d3] }
  | _ => none }
def RedistTwiceWrongFalsely : Prop := redistTwiceRow.holds Try.pinned (OpenSpec.ofChange redistTwiceWrong)

/- THE SECOND FORM. 'bulk': how many values and letters a reading holds, each counted each time it is reached (what is shared counts as often as it is met; a slice's spare places count too). A statement '..UptoSaid' is the law's where the arguments, and the package variables that the reading takes, are together of bulk at most 1048576: NARROWER than '..Said'. Prove '..Said' where nothing that the law and all that it calls make is longer than what came in: it says more and counts as full. Else prove '..UptoSaid'. A law counts once. -/
mutual
def uptoBulk {H : Type} : DataW H → Nat
  | .lit (.string bytes) => bytes.length + 1
  | .lit _ => 1
  | .nil => 1
  | .ptr d => uptoBulk d + 1
  | .slice elems spare => uptoBulkAll elems + uptoBulkAll spare + 1
  | .agg parts => uptoBulkAll parts + 1
  | .iface _ d => uptoBulk d + 1
  | .map entries => uptoBulkEntries entries + 1
  | .held _ => 1
def uptoBulkAll {H : Type} : List (DataW H) → Nat
  | [] => 0
  | d :: r => uptoBulk d + uptoBulkAll r
def uptoBulkEntries {H : Type} : List (Lit × DataW H) → Nat
  | [] => 0
  | x :: r => uptoBulkEntry x + uptoBulkEntries r
def uptoBulkEntry {H : Type} : Lit × DataW H → Nat
  | (.string bytes, d) => bytes.length + uptoBulk d + 1
  | (_, d) => uptoBulk d + 1
 end
def uptoSmall : (H : Type) → List (DataW H) → Bool := fun _ ds => decide (uptoBulkAll ds ≤ 1048576)
def OpenSpec.upto (s : _root_.Go.ChangeSpec) : _root_.Go.OpenSpec := { _root_.Go.OpenSpec.ofChange s with cond := some uptoSmall }

/-- 'crossroadslaw28.RedistProvider', WHERE WHAT IT READS IS OF BULK AT MOST 1048576: true; the input reads as it did. -/
def redistProviderUptoRow : OpenClaim := { program := "ytlemcljcmfphcaa", sum := "ea86a95e412ed0199f5063a111e9bdef92338ebcfefe33a54e191fb304f7bef8", func := "crossroads/crossroadslaw28.RedistProvider", spec := "redistProvider", inPlace := ["slices.overlaps[crossroads/api.Prefix]", "slices.overlaps[crossroads/redist.Ext]"], unfollowed := true, recurses := true, apart := false, narrowed := true }
def RedistProviderUptoSaid : Prop := redistProviderUptoRow.holds Try.pinned (OpenSpec.upto redistProviderSpec)

/-- 'crossroadslaw28.RedistPlays', WHERE WHAT IT READS IS OF BULK AT MOST 1048576: true; the input reads as it did. -/
def redistPlaysUptoRow : OpenClaim := { program := "ytlemcljcmfphcaa", sum := "ea86a95e412ed0199f5063a111e9bdef92338ebcfefe33a54e191fb304f7bef8", func := "crossroads/crossroadslaw28.RedistPlays", spec := "redistPlays", inPlace := ["slices.overlaps[crossroads/api.Prefix]", "slices.overlaps[crossroads/redist.Ext]"], unfollowed := true, recurses := true, apart := false, narrowed := true }
def RedistPlaysUptoSaid : Prop := redistPlaysUptoRow.holds Try.pinned (OpenSpec.upto redistPlaysSpec)

/-- 'crossroadslaw28.RedistSweep', WHERE WHAT IT READS IS OF BULK AT MOST 1048576: true; the input reads as it did. -/
def redistSweepUptoRow : OpenClaim := { program := "ytlemcljcmfphcaa", sum := "ea86a95e412ed0199f5063a111e9bdef92338ebcfefe33a54e191fb304f7bef8", func := "crossroads/crossroadslaw28.RedistSweep", spec := "redistSweep", inPlace := ["slices.overlaps[crossroads/api.Prefix]", "slices.overlaps[crossroads/redist.Ext]"], unfollowed := true, recurses := true, apart := false, narrowed := true }
def RedistSweepUptoSaid : Prop := redistSweepUptoRow.holds Try.pinned (OpenSpec.upto redistSweepSpec)

/-- 'crossroadslaw28.RedistEcho', WHERE WHAT IT READS IS OF BULK AT MOST 1048576: true; the input reads as it did. -/
def redistEchoUptoRow : OpenClaim := { program := "ytlemcljcmfphcaa", sum := "ea86a95e412ed0199f5063a111e9bdef92338ebcfefe33a54e191fb304f7bef8", func := "crossroads/crossroadslaw28.RedistEcho", spec := "redistEcho", inPlace := ["slices.overlaps[crossroads/api.Prefix]", "slices.overlaps[crossroads/redist.Ext]"], unfollowed := true, recurses := true, apart := false, narrowed := true }
def RedistEchoUptoSaid : Prop := redistEchoUptoRow.holds Try.pinned (OpenSpec.upto redistEchoSpec)

/-- 'crossroadslaw28.RedistTwice', WHERE WHAT IT READS IS OF BULK AT MOST 1048576: true; the input reads as it did. -/
def redistTwiceUptoRow : OpenClaim := { program := "ytlemcljcmfphcaa", sum := "ea86a95e412ed0199f5063a111e9bdef92338ebcfefe33a54e191fb304f7bef8", func := "crossroads/crossroadslaw28.RedistTwice", spec := "redistTwice", inPlace := ["slices.overlaps[crossroads/api.Prefix]", "slices.overlaps[crossroads/redist.Ext]"], unfollowed := true, recurses := true, apart := false, narrowed := true }
def RedistTwiceUptoSaid : Prop := redistTwiceUptoRow.holds Try.pinned (OpenSpec.upto redistTwiceSpec)

end Rows
end Go.Proofs.Ytlemcljcmfphcaa
