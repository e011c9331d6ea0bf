/- How the values of the Lean functions lie in memory (printed by this work's own program gen.py). -/
import Derived.Test.YtmfggjebbhdejaaGreatPu
import Derived.Test.YtmfggjebbhdejaaGreatCode
import Derived.Test.YtmfggjebbhdejaaGreatS1
import Derived.Test.YtmfggjebbhdejaaGreatA27
import Derived.KernelRfl
namespace Go.Proofs.YtmfggjebbhdejaaGreat.Abs
open Go
def zy.c (x:zy):List PVal:=[.int .u32 x.A,.int .i64 x.N]
def THop.c (x:THop):List PVal:=[.int .i64 x.Iface,.int .u32 x.Gate]
def qj.c (x:qj):List PVal:=[.int .u32 x.P.A,.int .i64 x.P.N,.int .i64 x.Proto,.int .i64 x.Inst,.int .i64 x.Dist,.int .i64 x.Metric,.int .u32 x.Tag,.bool x.Leaked,.int .i64 x.From,.ro 2 (x.Hops.map THop.c)]
def zv.c (x:zv):List PVal:=[.int .i64 x.Seq,.bool x.Permit,.int .u32 x.P.A,.int .i64 x.P.N,.int .i64 x.Ge,.int .i64 x.Le]
def zx.c (x:zx):List PVal:=[.int .i64 x.Seq,.bool x.Permit,.ro 6 (x.Listf.map zv.c),.int .i64 x.MKind,.int .i64 x.MLow,.int .i64 x.MHigh,.ro 1 (x.MTags.map c_u32),.int .i64 x.SCost,.int .i64 x.SPlus,.int .i64 x.SKind,.bool x.SetTag,.int .u32 x.STag]
def TAct.c (x:TAct):List PVal:=[.int .i64 x.Kind,.int .i64 x.At,.int .i64 x.To,.int .u32 x.C.P.A,.int .i64 x.C.P.N,.int .i64 x.C.Proto,.int .i64 x.C.Inst,.int .i64 x.C.Dist,.int .i64 x.C.Metric,.int .u32 x.C.Tag,.bool x.C.Leaked,.int .i64 x.C.From,.ro 2 (x.C.Hops.map THop.c),.ro 12 (x.Map.map zx.c)]
def qk.c (x:qk):List PVal:=[.ro 10 (x.L.map qj.c)]
def zz.c (x:zz):List PVal:=[.int .i64 x.From,.int .i64 x.To,.ro 12 (x.Map.map zx.c)]
def zw.c (x:zw):List PVal:=[.int .i64 x.At,.int .u32 x.P.A,.int .i64 x.P.N]
def TNet.c (x:TNet):List PVal:=[.ro 1 (x.T.map qk.c),.ro 1 (x.Sel.map (wq 10 qj.c)),.ro 3 (x.L.map zz.c),.ro 3 (x.Work.map zw.c),.bool x.Over]
def zq.c (x:zq):List PVal:=[.int .u32 x.P.A,.int .i64 x.P.N,.int .i64 x.Kind,.int .i64 x.Cost,.int .u32 x.Tag]
def TS.c (x:TS):List PVal:=[.int .i64 x.e0,.int .i64 x.e1,.int .i64 x.e2,.int .i64 x.e3,.int .i64 x.e4,.int .i64 x.e5]
def TS2.c (x:TS2):List PVal:=[.ro 1 (x.e0.map c_i64),.ro 1 (x.e1.map c_i64)]
theorem bb:(∀ {α:Type} (a b:α),cond true a b = a) ∧ (∀ {α:Type} (a b:α),cond false a b = b) ∧ (∀ b:Bool,(true && b) = b) ∧ (∀ b:Bool,(false && b) = false) ∧ (∀ b:Bool,(true || b) = true) ∧ (∀ b:Bool,(false || b) = b) ∧ ((!true) = false) ∧ ((!false) = true) :=
 ⟨fun _ _=>rfl,fun _ _=>rfl,Bool.true_and,Bool.false_and,Bool.true_or,Bool.false_or,rfl,rfl⟩
theorem ov106:OvlFn Tryz.prog 140 3 :=
 ⟨Tryz.f140,26,4,108,Tryz.func140,by kernel_rfl,by kernel_rfl,by kernel_rfl,by kernel_rfl,by kernel_rfl,by kernel_rfl⟩
theorem ov92:OvlFn Tryz.prog 129 10 :=
 ⟨Tryz.f129,34,4,42,Tryz.func129,by kernel_rfl,by kernel_rfl,by kernel_rfl,by kernel_rfl,by kernel_rfl,by kernel_rfl⟩
end Go.Proofs.YtmfggjebbhdejaaGreat.Abs
