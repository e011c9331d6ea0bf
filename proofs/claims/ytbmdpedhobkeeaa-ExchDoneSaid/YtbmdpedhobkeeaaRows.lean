/-
  No cell of these rows narrows 'for every input' (looked for: loops, veiled, ifaces, maps, wideKeys, modest, calm, conditions, laid).
  DERIVED. THE GIVEN ROWS OF THIS SEAT. 5 by the template 'for every input the law returns true; each argument reads behind the call as it read before'; 0 by the template 'total and deterministic' (their statements: YtbmdpedhobkeeaaTotals.lean).
  GIVEN WITH THE SEED: the statements are not yours to turn. If you find one false, say at which input.
  Laid BY PROGRAM, IN A SANDBOX (cutbox-rows.mjs): the forced cells as the released guide's own fill.sh prints them over the translation a8397492d4dc1dc5… (all of the seat's roots in one cut). By AI agents, Wed Nov 11 2026. No macro, syntax, notation, axiom, sorry.
-/
import Derived.Test.YtbmdpedhobkeeaaChecked
import GoSem.Claim
import GoSem.ClaimJoined
import GoSem.ClaimMapViews
import Derived.JoinedTies
import Derived.KernelRfl
namespace Go.Proofs.Ytbmdpedhobkeeaa
/- THE CELL 'sum', in the pinned program and in every row, IS THE sha256 OF THE DUMP (.gsa) THAT YtbmdpedhobkeeaaProg.lean LOADS. Nothing in Lean hashes anything: it is a label: what it is worth is what the hold of that sum in a sandbox is worth. -/
noncomputable def Try.pinned : Pinned := { name := "ytbmdpedhobkeeaa", sum := "a8397492d4dc1dc526ec85450db0b78bdae41311b4f95d2b421dfcb2335d93cc", checked := Try.checked }
namespace Rows
def none {H : Type} : Left H := { results := [], args := [] }

/-- 'crossroadslaw17.ExchPlays': WHATEVER THE INPUT: true; the input reads as it did. -/
def exchPlaysSpec : ChangeSpec := { name := "exchPlays", fn := fun _ => fun
  | [d1, d2] => { results := [.lit (.bool true)], args := [d1, d2] }
  | _ => none }
def exchPlaysRow : OpenClaim := { program := "ytbmdpedhobkeeaa", sum := "a8397492d4dc1dc526ec85450db0b78bdae41311b4f95d2b421dfcb2335d93cc", func := "crossroads/crossroadslaw17.ExchPlays", spec := "exchPlays", unfollowed := true, recurses := true, apart := false }
def ExchPlaysSaid : Prop := exchPlaysRow.holds Try.pinned (OpenSpec.ofChange exchPlaysSpec)

/-- ITS FALSE NEIGHBOUR: 'it returns false'. Refute it at one input. -/
def exchPlaysWrong : ChangeSpec := { name := "exchPlays", fn := fun _ => fun
  | [d1, d2] => { results := [.lit (.bool false)], args := [d1, d2] }
  | _ => none }
def ExchPlaysWrongFalsely : Prop := exchPlaysRow.holds Try.pinned (OpenSpec.ofChange exchPlaysWrong)

/-- 'crossroadslaw17.ExchRun': WHATEVER THE INPUT: true; the input reads as it did. -/
def exchRunSpec : ChangeSpec := { name := "exchRun", fn := fun _ => fun
  | [d1, d2, d3] => { results := [.lit (.bool true)], args := [d1, d2, d3] }
  | _ => none }
def exchRunRow : OpenClaim := { program := "ytbmdpedhobkeeaa", sum := "a8397492d4dc1dc526ec85450db0b78bdae41311b4f95d2b421dfcb2335d93cc", func := "crossroads/crossroadslaw17.ExchRun", spec := "exchRun", unfollowed := true, recurses := true, apart := false }
def ExchRunSaid : Prop := exchRunRow.holds Try.pinned (OpenSpec.ofChange exchRunSpec)

/-- ITS FALSE NEIGHBOUR: 'it returns false'. Refute it at one input. -/
def exchRunWrong : ChangeSpec := { name := "exchRun", fn := fun _ => fun
  | [d1, d2, d3] => { results := [.lit (.bool false)], args := [d1, d2, d3] }
  | _ => none }
def ExchRunWrongFalsely : Prop := exchRunRow.holds Try.pinned (OpenSpec.ofChange exchRunWrong)

/-- 'crossroadslaw17.ExchAll': WHATEVER THE INPUT: true; the input reads as it did. -/
def exchAllSpec : ChangeSpec := { name := "exchAll", fn := fun _ => fun
  | [d1, d2, d3] => { results := [.lit (.bool true)], args := [d1, d2, d3] }
  | _ => none }
def exchAllRow : OpenClaim := { program := "ytbmdpedhobkeeaa", sum := "a8397492d4dc1dc526ec85450db0b78bdae41311b4f95d2b421dfcb2335d93cc", func := "crossroads/crossroadslaw17.ExchAll", spec := "exchAll", unfollowed := true, recurses := true, apart := false }
def ExchAllSaid : Prop := exchAllRow.holds Try.pinned (OpenSpec.ofChange exchAllSpec)

/-- ITS FALSE NEIGHBOUR: 'it returns false'. Refute it at one input. -/
def exchAllWrong : ChangeSpec := { name := "exchAll", fn := fun _ => fun
  | [d1, d2, d3] => { results := [.lit (.bool false)], args := [d1, d2, d3] }
  | _ => none }
def ExchAllWrongFalsely : Prop := exchAllRow.holds Try.pinned (OpenSpec.ofChange exchAllWrong)

/-- 'crossroadslaw17.ExchDone': WHATEVER THE INPUT: true; the input reads as it did. -/
def exchDoneSpec : ChangeSpec := { name := "exchDone", fn := fun _ => fun
  | [d1, d2] => { results := [.lit (.bool true)], args := [d1, d2] }
  | _ => none }
def exchDoneRow : OpenClaim := { program := "ytbmdpedhobkeeaa", sum := "a8397492d4dc1dc526ec85450db0b78bdae41311b4f95d2b421dfcb2335d93cc", func := "crossroads/crossroadslaw17.ExchDone", spec := "exchDone", unfollowed := true, recurses := true, apart := false }
def ExchDoneSaid : Prop := exchDoneRow.holds Try.pinned (OpenSpec.ofChange exchDoneSpec)

/-- ITS FALSE NEIGHBOUR: 'it returns false'. Refute it at one input. -/
def exchDoneWrong : ChangeSpec := { name := "exchDone", fn := fun _ => fun
  | [d1, d2] => { results := [.lit (.bool false)], args := [d1, d2] }
  | _ => none }
def ExchDoneWrongFalsely : Prop := exchDoneRow.holds Try.pinned (OpenSpec.ofChange exchDoneWrong)

/-- 'crossroadslaw17.ExchWants': WHATEVER THE INPUT: true; the input reads as it did. -/
def exchWantsSpec : ChangeSpec := { name := "exchWants", fn := fun _ => fun
  | [d1, d2] => { results := [.lit (.bool true)], args := [d1, d2] }
  | _ => none }
def exchWantsRow : OpenClaim := { program := "ytbmdpedhobkeeaa", sum := "a8397492d4dc1dc526ec85450db0b78bdae41311b4f95d2b421dfcb2335d93cc", func := "crossroads/crossroadslaw17.ExchWants", spec := "exchWants", unfollowed := true, recurses := true, apart := false }
def ExchWantsSaid : Prop := exchWantsRow.holds Try.pinned (OpenSpec.ofChange exchWantsSpec)

/-- ITS FALSE NEIGHBOUR: 'it returns false'. Refute it at one input. -/
def exchWantsWrong : ChangeSpec := { name := "exchWants", fn := fun _ => fun
  | [d1, d2] => { results := [.lit (.bool false)], args := [d1, d2] }
  | _ => none }
def ExchWantsWrongFalsely : Prop := exchWantsRow.holds Try.pinned (OpenSpec.ofChange exchWantsWrong)

/- THE SECOND FORM. 'bulk': how many values and letters a reading holds, each counted each time it is reached (what is shared counts as often as it is met; a slice's spare places count too). A statement '..UptoSaid' is the law's where the arguments, and the package variables that the reading takes, are together of bulk at most 1048576: NARROWER than '..Said'. Prove '..Said' where nothing that the law and all that it calls make is longer than what came in: it says more and counts as full. Else prove '..UptoSaid'. A law counts once. -/
mutual
def uptoBulk {H : Type} : DataW H → Nat
  | .lit (.string bytes) => bytes.length + 1
  | .lit _ => 1
  | .nil => 1
  | .ptr d => uptoBulk d + 1
  | .slice elems spare => uptoBulkAll elems + uptoBulkAll spare + 1
  | .agg parts => uptoBulkAll parts + 1
  | .iface _ d => uptoBulk d + 1
  | .map entries => uptoBulkEntries entries + 1
  | .held _ => 1
def uptoBulkAll {H : Type} : List (DataW H) → Nat
  | [] => 0
  | d :: r => uptoBulk d + uptoBulkAll r
def uptoBulkEntries {H : Type} : List (Lit × DataW H) → Nat
  | [] => 0
  | x :: r => uptoBulkEntry x + uptoBulkEntries r
def uptoBulkEntry {H : Type} : Lit × DataW H → Nat
  | (.string bytes, d) => bytes.length + uptoBulk d + 1
  | (_, d) => uptoBulk d + 1
 end
def uptoSmall : (H : Type) → List (DataW H) → Bool := fun _ ds => decide (uptoBulkAll ds ≤ 1048576)
def OpenSpec.upto (s : _root_.Go.ChangeSpec) : _root_.Go.OpenSpec := { _root_.Go.OpenSpec.ofChange s with cond := some uptoSmall }

/-- 'crossroadslaw17.ExchPlays', WHERE WHAT IT READS IS OF BULK AT MOST 1048576: true; the input reads as it did. -/
def exchPlaysUptoRow : OpenClaim := { program := "ytbmdpedhobkeeaa", sum := "a8397492d4dc1dc526ec85450db0b78bdae41311b4f95d2b421dfcb2335d93cc", func := "crossroads/crossroadslaw17.ExchPlays", spec := "exchPlays", unfollowed := true, recurses := true, apart := false, narrowed := true }
def ExchPlaysUptoSaid : Prop := exchPlaysUptoRow.holds Try.pinned (OpenSpec.upto exchPlaysSpec)

/-- 'crossroadslaw17.ExchRun', WHERE WHAT IT READS IS OF BULK AT MOST 1048576: true; the input reads as it did. -/
def exchRunUptoRow : OpenClaim := { program := "ytbmdpedhobkeeaa", sum := "a8397492d4dc1dc526ec85450db0b78bdae41311b4f95d2b421dfcb2335d93cc", func := "crossroads/crossroadslaw17.ExchRun", spec := "exchRun", unfollowed := true, recurses := true, apart := false, narrowed := true }
def ExchRunUptoSaid : Prop := exchRunUptoRow.holds Try.pinned (OpenSpec.upto exchRunSpec)

/-- 'crossroadslaw17.ExchAll', WHERE WHAT IT READS IS OF BULK AT MOST 1048576: true; the input reads as it did. -/
def exchAllUptoRow : OpenClaim := { program := "ytbmdpedhobkeeaa", sum := "a8397492d4dc1dc526ec85450db0b78bdae41311b4f95d2b421dfcb2335d93cc", func := "crossroads/crossroadslaw17.ExchAll", spec := "exchAll", unfollowed := true, recurses := true, apart := false, narrowed := true }
def ExchAllUptoSaid : Prop := exchAllUptoRow.holds Try.pinned (OpenSpec.upto exchAllSpec)

/-- 'crossroadslaw17.ExchDone', WHERE WHAT IT READS IS OF BULK AT MOST 1048576: true; the input reads as it did. -/
def exchDoneUptoRow : OpenClaim := { program := "ytbmdpedhobkeeaa", sum := "a8397492d4dc1dc526ec85450db0b78bdae41311b4f95d2b421dfcb2335d93cc", func := "crossroads/crossroadslaw17.ExchDone", spec := "exchDone", unfollowed := true, recurses := true, apart := false, narrowed := true }
def ExchDoneUptoSaid : Prop := exchDoneUptoRow.holds Try.pinned (OpenSpec.upto exchDoneSpec)

/-- 'crossroadslaw17.ExchWants', WHERE WHAT IT READS IS OF BULK AT MOST 1048576: true; the input reads as it did. -/
def exchWantsUptoRow : OpenClaim := { program := "ytbmdpedhobkeeaa", sum := "a8397492d4dc1dc526ec85450db0b78bdae41311b4f95d2b421dfcb2335d93cc", func := "crossroads/crossroadslaw17.ExchWants", spec := "exchWants", unfollowed := true, recurses := true, apart := false, narrowed := true }
def ExchWantsUptoSaid : Prop := exchWantsUptoRow.holds Try.pinned (OpenSpec.upto exchWantsSpec)

end Rows
end Go.Proofs.Ytbmdpedhobkeeaa
