/- How the values of the Lean functions lie in memory (printed by this work's own program gen.py). -/
import Derived.Test.YtakallenldpkiaaGreatDoorPu
import Derived.Test.YtakallenldpkiaaGreatDoorCode
import Derived.Test.YtakallenldpkiaaGreatDoorS1
import Derived.Test.YtakallenldpkiaaGreatDoorA27
import Derived.KernelRfl
namespace Go.Proofs.YtakallenldpkiaaGreatDoor.Abs
open Go
def qk.c (x:qk):List PVal:=[.int .u32 x.A,.int .i64 x.N]
def THop.c (x:THop):List PVal:=[.int .i64 x.Iface,.int .u32 x.Gate]
def qj.c (x:qj):List PVal:=[.int .u32 x.P.A,.int .i64 x.P.N,.int .i64 x.Proto,.int .i64 x.Inst,.int .i64 x.Dist,.int .i64 x.Metric,.int .u32 x.Tag,.bool x.Leaked,.int .i64 x.From,.ro 2 (x.Hops.map THop.c)]
def TAct.c (x:TAct):List PVal:=[.int .i64 x.Kind,.int .u32 x.P.A,.int .i64 x.P.N,.ro 2 (x.Hops.map THop.c),.ro 10 (x.L.map qj.c)]
def TS.c (x:TS):List PVal:=[.int .i64 x.e0,.int .i64 x.e1]
def TNode.c (x:TNode):List PVal:=[.int .u32 x.p.A,.int .i64 x.p.N,.int .i64 x.v,.bool x.isf,.int .i64 x.kids.e0,.int .i64 x.kids.e1]
def TTrie.c (x:TTrie):List PVal:=[.ro 6 (x.l.map TNode.c),.ro 1 (x.free.map c_i64),.int .i64 x.root,.int .i64 x.n]
def TGroup.c (x:TGroup):List PVal:=[.ro 2 (x.hops.map THop.c),.str x.text,.int .i64 x.many]
def TEntry.c (x:TEntry):List PVal:=[.int .u32 x.P.A,.int .i64 x.P.N,.int .i64 x.V]
theorem bb:(∀ {α:Type} (a b:α),cond true a b = a) ∧ (∀ {α:Type} (a b:α),cond false a b = b) ∧ (∀ b:Bool,(true && b) = b) ∧ (∀ b:Bool,(false && b) = false) ∧ (∀ b:Bool,(true || b) = true) ∧ (∀ b:Bool,(false || b) = b) ∧ ((!true) = false) ∧ ((!false) = true) :=
 ⟨fun _ _=>rfl,fun _ _=>rfl,Bool.true_and,Bool.false_and,Bool.true_or,Bool.false_or,rfl,rfl⟩
end Go.Proofs.YtakallenldpkiaaGreatDoor.Abs
