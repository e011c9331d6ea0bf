/-
  No cell of these rows narrows 'for every input' (looked for: loops, veiled, ifaces, maps, wideKeys, modest, calm, conditions, laid).
  DERIVED. THE GIVEN ROWS OF THIS SEAT. 4 by the template 'for every input the law returns true; each argument reads behind the call as it read before'; 0 by the template 'total and deterministic' (their statements: YtmfggjebbhdejaaGreatTotals.lean).
  GIVEN WITH THE SEED: the statements are not yours to turn. If you find one false, say at which input.
  Laid BY PROGRAM, IN A SANDBOX (cutbox-rows.mjs): the forced cells as the released guide's own fill.sh prints them over the translation 527c45173ab3e9c0… (all of the seat's roots in one cut). By AI agents, Wed Nov 11 2026. No macro, syntax, notation, axiom, sorry.
-/
import Derived.Test.YtmfggjebbhdejaaGreatChecked
import GoSem.Claim
import GoSem.ClaimJoined
import GoSem.ClaimMapViews
import Derived.JoinedTies
import Derived.KernelRfl
namespace Go.Proofs.YtmfggjebbhdejaaGreat
/- THE CELL 'sum', in the pinned program and in every row, IS THE sha256 OF THE DUMP (.gsa) THAT YtmfggjebbhdejaaGreatProg.lean LOADS. Nothing in Lean hashes anything: it is a label: what it is worth is what the hold of that sum in a sandbox is worth. -/
noncomputable def Tryz.pinned : Pinned := { name := "ytmfggjebbhdejaagreat", sum := "527c45173ab3e9c0769ae3e32441313805c458637245681006a73a36222ecdf6", checked := Tryz.checked }
namespace Rows
def none {H : Type} : Left H := { results := [], args := [] }

/-- 'crossroadslaw26.LeakNative': WHATEVER THE INPUT: true; the input reads as it did. -/
def leakNativeSpec : ChangeSpec := { name := "leakNative", fn := fun _ => fun
  | [d1, d2] => { results := [.lit (.bool true)], args := [d1, d2] }
  | _ => none }
def leakNativeRow : OpenClaim := { program := "ytmfggjebbhdejaagreat", sum := "527c45173ab3e9c0769ae3e32441313805c458637245681006a73a36222ecdf6", func := "crossroads/crossroadslaw26.LeakNative", spec := "leakNative", inPlace := ["slices.overlaps[crossroads/rib.Cand]", "slices.overlaps[crossroads/leak.Item]"], unfollowed := true, recurses := true, apart := false }
def LeakNativeSaid : Prop := leakNativeRow.holds Tryz.pinned (OpenSpec.ofChange leakNativeSpec)

/-- ITS FALSE NEIGHBOUR: 'it returns false'. Refute it at one input. -/
def leakNativeWrong : ChangeSpec := { name := "leakNative", fn := fun _ => fun
  | [d1, d2] => { results := [.lit (.bool false)], args := [d1, d2] }
  | _ => none }
def LeakNativeWrongFalsely : Prop := leakNativeRow.holds Tryz.pinned (OpenSpec.ofChange leakNativeWrong)

/-- 'crossroadslaw26.LeakPlays': WHATEVER THE INPUT: true; the input reads as it did. -/
def leakPlaysSpec : ChangeSpec := { name := "leakPlays", fn := fun _ => fun
  | [d1, d2, d3] => { results := [.lit (.bool true)], args := [d1, d2, d3] }
  | _ => none }
def leakPlaysRow : OpenClaim := { program := "ytmfggjebbhdejaagreat", sum := "527c45173ab3e9c0769ae3e32441313805c458637245681006a73a36222ecdf6", func := "crossroads/crossroadslaw26.LeakPlays", spec := "leakPlays", inPlace := ["slices.overlaps[crossroads/leak.Item]", "slices.overlaps[crossroads/rib.Cand]"], unfollowed := true, recurses := true, apart := false }
def LeakPlaysSaid : Prop := leakPlaysRow.holds Tryz.pinned (OpenSpec.ofChange leakPlaysSpec)

/-- ITS FALSE NEIGHBOUR: 'it returns false'. Refute it at one input. -/
def leakPlaysWrong : ChangeSpec := { name := "leakPlays", fn := fun _ => fun
  | [d1, d2, d3] => { results := [.lit (.bool false)], args := [d1, d2, d3] }
  | _ => none }
def LeakPlaysWrongFalsely : Prop := leakPlaysRow.holds Tryz.pinned (OpenSpec.ofChange leakPlaysWrong)

/-- 'crossroadslaw26.LeakEnd': WHATEVER THE INPUT: true; the input reads as it did. -/
def leakEndSpec : ChangeSpec := { name := "leakEnd", fn := fun _ => fun
  | [d1, d2, d3] => { results := [.lit (.bool true)], args := [d1, d2, d3] }
  | _ => none }
def leakEndRow : OpenClaim := { program := "ytmfggjebbhdejaagreat", sum := "527c45173ab3e9c0769ae3e32441313805c458637245681006a73a36222ecdf6", func := "crossroads/crossroadslaw26.LeakEnd", spec := "leakEnd", inPlace := ["slices.overlaps[crossroads/rib.Cand]", "slices.overlaps[crossroads/leak.Item]"], unfollowed := true, recurses := true, apart := false }
def LeakEndSaid : Prop := leakEndRow.holds Tryz.pinned (OpenSpec.ofChange leakEndSpec)

/-- ITS FALSE NEIGHBOUR: 'it returns false'. Refute it at one input. -/
def leakEndWrong : ChangeSpec := { name := "leakEnd", fn := fun _ => fun
  | [d1, d2, d3] => { results := [.lit (.bool false)], args := [d1, d2, d3] }
  | _ => none }
def LeakEndWrongFalsely : Prop := leakEndRow.holds Tryz.pinned (OpenSpec.ofChange leakEndWrong)

/-- 'crossroadslaw26.LeakSolved': WHATEVER THE INPUT: true; the input reads as it did. -/
def leakSolvedSpec : ChangeSpec := { name := "leakSolved", fn := fun _ => fun
  | [d1, d2] => { results := [.lit (.bool true)], args := [d1, d2] }
  | _ => none }
def leakSolvedRow : OpenClaim := { program := "ytmfggjebbhdejaagreat", sum := "527c45173ab3e9c0769ae3e32441313805c458637245681006a73a36222ecdf6", func := "crossroads/crossroadslaw26.LeakSolved", spec := "leakSolved", inPlace := ["slices.overlaps[crossroads/rib.Cand]", "slices.overlaps[crossroads/leak.Item]"], unfollowed := true, recurses := true, apart := false }
def LeakSolvedSaid : Prop := leakSolvedRow.holds Tryz.pinned (OpenSpec.ofChange leakSolvedSpec)

/-- ITS FALSE NEIGHBOUR: 'it returns false'. Refute it at one input. -/
def leakSolvedWrong : ChangeSpec := { name := "leakSolved", fn := fun _ => fun
  | [d1, d2] => { results := [.lit (.bool false)], args := [d1, d2] }
  | _ => none }
def LeakSolvedWrongFalsely : Prop := leakSolvedRow.holds Tryz.pinned (OpenSpec.ofChange leakSolvedWrong)

/- THE SECOND FORM. 'bulk': how many values and letters a reading holds, each counted each time it is reached (what is shared counts as often as it is met; a slice's spare places count too). A statement '..UptoSaid' is the law's where the arguments, and the package variables that the reading takes, are together of bulk at most 1048576: NARROWER than '..Said'. Prove '..Said' where nothing that the law and all that it calls make is longer than what came in: it says more and counts as full. Else prove '..UptoSaid'. A law counts once. -/
mutual
def uptoBulk {H : Type} : DataW H → Nat
  | .lit (.string bytes) => bytes.length + 1
  | .lit _ => 1
  | .nil => 1
  | .ptr d => uptoBulk d + 1
  | .slice elems spare => uptoBulkAll elems + uptoBulkAll spare + 1
  | .agg parts => uptoBulkAll parts + 1
  | .iface _ d => uptoBulk d + 1
  | .map entries => uptoBulkEntries entries + 1
  | .held _ => 1
def uptoBulkAll {H : Type} : List (DataW H) → Nat
  | [] => 0
  | d :: r => uptoBulk d + uptoBulkAll r
def uptoBulkEntries {H : Type} : List (Lit × DataW H) → Nat
  | [] => 0
  | x :: r => uptoBulkEntry x + uptoBulkEntries r
def uptoBulkEntry {H : Type} : Lit × DataW H → Nat
  | (.string bytes, d) => bytes.length + uptoBulk d + 1
  | (_, d) => uptoBulk d + 1
 end
def uptoSmall : (H : Type) → List (DataW H) → Bool := fun _ ds => decide (uptoBulkAll ds ≤ 1048576)
def OpenSpec.upto (s : _root_.Go.ChangeSpec) : _root_.Go.OpenSpec := { _root_.Go.OpenSpec.ofChange s with cond := some uptoSmall }

/-- 'crossroadslaw26.LeakNative', WHERE WHAT IT READS IS OF BULK AT MOST 1048576: true; the input reads as it did. -/
def leakNativeUptoRow : OpenClaim := { program := "ytmfggjebbhdejaagreat", sum := "527c45173ab3e9c0769ae3e32441313805c458637245681006a73a36222ecdf6", func := "crossroads/crossroadslaw26.LeakNative", spec := "leakNative", inPlace := ["slices.overlaps[crossroads/rib.Cand]", "slices.overlaps[crossroads/leak.Item]"], unfollowed := true, recurses := true, apart := false, narrowed := true }
def LeakNativeUptoSaid : Prop := leakNativeUptoRow.holds Tryz.pinned (OpenSpec.upto leakNativeSpec)

/-- 'crossroadslaw26.LeakPlays', WHERE WHAT IT READS IS OF BULK AT MOST 1048576: true; the input reads as it did. -/
def leakPlaysUptoRow : OpenClaim := { program := "ytmfggjebbhdejaagreat", sum := "527c45173ab3e9c0769ae3e32441313805c458637245681006a73a36222ecdf6", func := "crossroads/crossroadslaw26.LeakPlays", spec := "leakPlays", inPlace := ["slices.overlaps[crossroads/leak.Item]", "slices.overlaps[crossroads/rib.Cand]"], unfollowed := true, recurses := true, apart := false, narrowed := true }
def LeakPlaysUptoSaid : Prop := leakPlaysUptoRow.holds Tryz.pinned (OpenSpec.upto leakPlaysSpec)

/-- 'crossroadslaw26.LeakEnd', WHERE WHAT IT READS IS OF BULK AT MOST 1048576: true; the input reads as it did. -/
def leakEndUptoRow : OpenClaim := { program := "ytmfggjebbhdejaagreat", sum := "527c45173ab3e9c0769ae3e32441313805c458637245681006a73a36222ecdf6", func := "crossroads/crossroadslaw26.LeakEnd", spec := "leakEnd", inPlace := ["slices.overlaps[crossroads/rib.Cand]", "slices.overlaps[crossroads/leak.Item]"], unfollowed := true, recurses := true, apart := false, narrowed := true }
def LeakEndUptoSaid : Prop := leakEndUptoRow.holds Tryz.pinned (OpenSpec.upto leakEndSpec)

/-- 'crossroadslaw26.LeakSolved', WHERE WHAT IT READS IS OF BULK AT MOST 1048576: true; the input reads as it did. -/
def leakSolvedUptoRow : OpenClaim := { program := "ytmfggjebbhdejaagreat", sum := "527c45173ab3e9c0769ae3e32441313805c458637245681006a73a36222ecdf6", func := "crossroads/crossroadslaw26.LeakSolved", spec := "leakSolved", inPlace := ["slices.overlaps[crossroads/rib.Cand]", "slices.overlaps[crossroads/leak.Item]"], unfollowed := true, recurses := true, apart := false, narrowed := true }
def LeakSolvedUptoSaid : Prop := leakSolvedUptoRow.holds Tryz.pinned (OpenSpec.upto leakSolvedSpec)

end Rows
end Go.Proofs.YtmfggjebbhdejaaGreat
