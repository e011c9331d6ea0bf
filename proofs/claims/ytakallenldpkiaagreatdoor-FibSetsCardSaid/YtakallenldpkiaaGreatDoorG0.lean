/- The variables of packages of which something is told: their blocks, and what is told. Generic over any program (a seat may put its own list in this place). -/
import Derived.WalkKit
import Derived.Lib.ItoaNum
namespace Go.Proofs.YtakallenldpkiaaGreatDoor.Abs
open Go
def tabIs (k:IntKind) (zs:List Int) (o:Obj):Prop:=∃ (t:TypeId) (g:Nat × Nat),o = .cells (zs.map fun z=>Value.int k z).toArray t g
class DqC where
 v:Bool
instance dqF:DqC:=⟨false⟩
def Mq:Bool:=true
def Gs:List (Nat × (Obj → Prop)):=[(0,tabIs .u64 Lib.pow10Tab)]
end Go.Proofs.YtakallenldpkiaaGreatDoor.Abs
