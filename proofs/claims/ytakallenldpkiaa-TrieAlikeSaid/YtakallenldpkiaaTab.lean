/- The table of the functions that are run (printed by this work's own program gen.py). -/
import Derived.Test.YtakallenldpkiaaA29
import Derived.Test.YtakallenldpkiaaCode
namespace Go.Proofs.Ytakallenldpkiaa.Abs
open Go

def tab : List (Nat × (Nat × List RV × AC)) := [(9, (3, [.t 0], ac9)), (10, (42, [.t 6], ac10)), (11, (21, [.c 4 (some 3), .t 5], ac11)), (12, (54, [.t 0], ac12)), (15, (9, [.t 2], ac15)), (22, (11, [.t 4], ac22)), (25, (31, [.t 4, .t 5], ac25)), (30, (15, [.t 2], ac30)), (31, (150, [.t 8], ac31)), (34, (20, [.t 4], ac34)), (36, (51, [], ac36)), (37, (13, [], ac37)), (39, (9, [.t 2], ac39)), (40, (10, [.t 2], ac40)), (41, (56, [.t 4], ac41)), (42, (9, [.c 4 (some 6)], ac42)), (43, (10, [.t 4], ac43)), (44, (33, [.c 4 (some 2)], ac44)), (46, (17, [.t 4], ac46)), (47, (17, [.t 4], ac47)), (48, (6, [.t 2], ac48)), (49, (19, [.t 2], ac49))]
theorem tab_ok : TabOk Try.prog tab :=
  TabOk.cons i9 <| TabOk.cons i10 <| TabOk.cons i11 <| TabOk.cons i12 <| TabOk.cons i15 <| TabOk.cons i22 <| TabOk.cons i25 <| TabOk.cons i30 <| TabOk.cons i31 <| TabOk.cons i34 <| TabOk.cons i36 <| TabOk.cons i37 <| TabOk.cons i39 <| TabOk.cons i40 <| TabOk.cons i41 <| TabOk.cons i42 <| TabOk.cons i43 <| TabOk.cons i44 <| TabOk.cons i46 <| TabOk.cons i47 <| TabOk.cons i48 <| TabOk.cons i49 <| TabOk.nil

end Go.Proofs.Ytakallenldpkiaa.Abs
