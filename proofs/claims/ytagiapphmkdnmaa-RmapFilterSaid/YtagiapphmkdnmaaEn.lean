/- How the values of the Lean functions lie in memory (printed by this work's own program gen.py). -/
import Derived.Test.YtagiapphmkdnmaaPu
import Derived.Test.YtagiapphmkdnmaaCode
import Derived.Test.YtagiapphmkdnmaaA22
namespace Go.Proofs.Ytagiapphmkdnmaa.Abs
open Go

def TPrefix.c (x : TPrefix) : List PVal := [.int .u32 x.A, .int .i64 x.N]
def TRule.c (x : TRule) : List PVal := [.int .i64 x.Seq, .bool x.Permit, .int .u32 x.P.A, .int .i64 x.P.N, .int .i64 x.Ge, .int .i64 x.Le]
def TClause.c (x : TClause) : List PVal := [.int .i64 x.Seq, .bool x.Permit, .ro 6 (x.Listf.map TRule.c), .int .i64 x.MKind, .int .i64 x.MLow, .int .i64 x.MHigh, .ro 1 (x.MTags.map c_u32), .int .i64 x.SCost, .int .i64 x.SPlus, .int .i64 x.SKind, .bool x.SetTag, .int .u32 x.STag]
def TRoute.c (x : TRoute) : List PVal := [.int .u32 x.P.A, .int .i64 x.P.N, .int .i64 x.Kind, .int .i64 x.Cost, .int .u32 x.Tag]

end Go.Proofs.Ytagiapphmkdnmaa.Abs
