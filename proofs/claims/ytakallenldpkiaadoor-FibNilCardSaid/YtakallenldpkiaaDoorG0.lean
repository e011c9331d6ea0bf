/- The variables of packages of which something is told: their blocks, and what is told. Generic over any program (a seat may put its own list in this place). -/
import Derived.WalkKit
import Derived.Lib.ItoaNum
namespace Go.Proofs.YtakallenldpkiaaDoor.Abs
open Go

/-- The variable holds some int. -/
def intIs (o : Obj) : Prop := ∃ (m : Int) (cs : Array Value) (t : TypeId) (g : Nat × Nat), o = .cells cs t g ∧ cs[0]? = some (.int .i64 m)
/-- The variable holds these numbers. -/
def tabIs (k : IntKind) (zs : List Int) (o : Obj) : Prop := ∃ (t : TypeId) (g : Nat × Nat), o = .cells (zs.map fun z => Value.int k z).toArray t g

/-- Is it asked that what is drawn of the tape does not grow less? -/
class DqC where
  v : Bool
instance dqF : DqC := ⟨false⟩
/-- Are maps with strings as keys told with their stamps? -/
def Mq : Bool := true

def Gs : List (Nat × (Obj → Prop)) := [(0, tabIs .u64 Lib.pow10Tab)]

end Go.Proofs.YtakallenldpkiaaDoor.Abs
