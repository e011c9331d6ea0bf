/- Rows in structs; make, copy, clear, remainders, ends of rows: typed. Generic over any program. -/
import Derived.Test.YtakallenldpkiaaGreatDoorA27
import Derived.Test.YtakallenldpkiaaGreatDoorA30
import Derived.Test.YtakallenldpkiaaGreatDoorP0
set_option linter.unusedVariables false
set_option linter.unusedSimpArgs false
set_option linter.unusedSectionVars false
namespace Go.Proofs.YtakallenldpkiaaGreatDoor.Abs
open Go
variable [DqC]
theorem core_clearT {α:Type} {c:α → List PVal} {x0:α} {h:Heap} {nx id sz lo m:Nat} {ty:TypeId} {L:List α} {zs:List PVal} (ho:h id = some (.row sz ty (L.map c))) (hlo:lo + m = L.length) (hm:0 < m) (hmm:m = L.length - lo) (hz:zs = c x0) :
  core (.clear sz zs) [.own id sz lo m] h nx = some { v:=.hole,rh:=[id],wh:=[(id,some (.row sz ty ((L.take lo ++ List.replicate (L.length - lo) x0).map c)))] }:=by
 subst hz
 simp only [core,ho]
 rw [if_pos ⟨trivial,trivial,by simp; omega,hm⟩]
 have:(L.map c).drop (lo + m) = []:=by rw [List.drop_eq_nil_iff]; simp; omega
 simp [overE,this,List.map_take,← hmm]
theorem core_sliceRlo {α:Type} {c:α → List PVal} {h:Heap} {nx id sz n n':Nat} {ty:TypeId} {L:List α} {ik:IntKind} {i:Int} (lo:Nat) (ho:h id = some (.row sz ty (L.map c))) (hi:i = (lo:Int)) (hn:lo ≤ n) (hn':n - lo = n') :
  core (.slice sz true false) [.own id sz 0 n,.int ik i] h nx = some { v:=.own id sz lo n',rh:=[id] }:=by
 subst hi hn'
 simp only [core,ho,sbnd]
 rw [if_pos ⟨by omega,by omega⟩]
 simp
end Go.Proofs.YtakallenldpkiaaGreatDoor.Abs
