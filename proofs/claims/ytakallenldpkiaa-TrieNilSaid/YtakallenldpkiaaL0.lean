/- No trie: nothing. -/
import Derived.Test.YtakallenldpkiaaTy
namespace Go.Proofs.Ytakallenldpkiaa.Abs
open Go
theorem trieNil_true (p : TPrefix) (a v : Int) (_ : p.ok) (_ : InK .u32 a) (_ : InK .i64 v) : F8_crossroadslaw06_TrieNil p a v = true := rfl
end Go.Proofs.Ytakallenldpkiaa.Abs
