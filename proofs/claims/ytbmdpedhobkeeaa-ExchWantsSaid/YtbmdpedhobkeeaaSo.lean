/- Sizes. -/
import Derived.Test.YtbmdpedhobkeeaaEn
import Derived.Test.YtbmdpedhobkeeaaS2
import Derived.Test.YtbmdpedhobkeeaaA30
set_option linter.unusedVariables false
namespace Go.Proofs.Ytbmdpedhobkeeaa.Abs
open Go
end Go.Proofs.Ytbmdpedhobkeeaa.Abs
