/- How the values of the Lean functions lie in memory (printed by this work's own program gen.py). -/
import Derived.Test.YtlemcljcmfphcaaPu
import Derived.Test.YtlemcljcmfphcaaCode
import Derived.Test.YtlemcljcmfphcaaS1
import Derived.KernelRfl
namespace Go.Proofs.Ytlemcljcmfphcaa.Abs
open Go

def TPrefix.c (x : TPrefix) : List PVal := [.int .u32 x.A, .int .i64 x.N]
def TExt.c (x : TExt) : List PVal := [.int .u32 x.P.A, .int .i64 x.P.N, .int .u32 x.Tag, .bool x.Marked]
def TDomain.c (x : TDomain) : List PVal := [.int .u32 x.Tag, .ro 2 (x.In.map TPrefix.c), .ro 4 (x.Ext.map TExt.c)]
def TWorld.c (x : TWorld) : List PVal := [.ro 3 (x.D.map TDomain.c)]
def TBorder.c (x : TBorder) : List PVal := [.int .i64 x.From, .int .i64 x.To, .bool x.Provider]
def TAct.c (x : TAct) : List PVal := [.int .i64 x.Kind, .int .i64 x.B.From, .int .i64 x.B.To, .bool x.B.Provider, .int .u32 x.P.A, .int .i64 x.P.N]
theorem ov34 : OvlFn Try.prog 57 2 :=
  ⟨Try.f57, 37, 4, 29, Try.func57, by kernel_rfl, by kernel_rfl, by kernel_rfl, by kernel_rfl, by kernel_rfl, by kernel_rfl⟩
theorem ov45 : OvlFn Try.prog 63 4 :=
  ⟨Try.f63, 38, 4, 42, Try.func63, by kernel_rfl, by kernel_rfl, by kernel_rfl, by kernel_rfl, by kernel_rfl, by kernel_rfl⟩

end Go.Proofs.Ytlemcljcmfphcaa.Abs
