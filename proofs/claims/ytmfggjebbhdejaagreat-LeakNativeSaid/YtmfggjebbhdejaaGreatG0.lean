/- The variables of packages of which something is told: their blocks, and what is told. Generic over any program (a seat may put its own list in this place). -/
import Derived.WalkKit
import Derived.Lib.ItoaNum
namespace Go.Proofs.YtmfggjebbhdejaaGreat.Abs
open Go
def Gs:List (Nat × (Obj → Prop)):=[]
end Go.Proofs.YtmfggjebbhdejaaGreat.Abs
