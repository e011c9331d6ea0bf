/- Rows in structs; make, copy, clear, remainders, ends of rows: typed. Generic over any program. -/
import Derived.Test.YtmfggjebbhdejaaGreatA27
import Derived.Test.YtmfggjebbhdejaaGreatA30
import Derived.Test.YtmfggjebbhdejaaGreatP0
set_option linter.unusedVariables false
set_option linter.unusedSimpArgs false
namespace Go.Proofs.YtmfggjebbhdejaaGreat.Abs
open Go
theorem core_mkT {α:Type} {c:α → List PVal} {x0:α} {h:Heap} {nx sz by_ n:Nat} {ty:TypeId} {zs:List PVal} {k1 k2:IntKind} {l c':Int} (hl:l = (n:Int)) (hc:c' = (n:Int)) (hz:zs = c x0) (hb:by_ * n ≤ 281474976710656) (hm:n ≤ 9223372036854775807) :
  core (.mkslice sz ty by_ zs) [.int k1 l,.int k2 c'] h nx = some { v:=.own nx sz 0 n,wh:=[(nx,some (.row sz ty ((List.replicate n x0).map c)))],nw:=[nx] }:=by
 subst hl hc hz
 simp only [core]
 rw [if_pos ⟨trivial,by omega,by simpa using hb,by simpa [maxLen] using hm⟩]
 simp
theorem core_copyT {α:Type} {c:α → List PVal} {h:Heap} {nx id sz:Nat} {ty:TypeId} {L X:List α} {x:PVal} {rh:List AId} (ho:h id = some (.row sz ty (L.map c))) (he:elemsU h L.length x = some (sz,(X.map c).take L.length,rh)) (h0:0 < L.length) :
  core (.copy sz) [.own id sz 0 L.length,x] h nx = some { v:=.int .i64 ((X.take L.length).length:Nat),rh:=id :: rh,wh:=[(id,some (.row sz ty ((cpy_ L X).map c)))] }:=by
 simp only [core,ho,he]
 rw [if_pos ⟨trivial,trivial,trivial,by simp,h0⟩]
 simp [cpy_,overE,List.map_take,List.map_drop]
theorem core_clearT {α:Type} {c:α → List PVal} {x0:α} {h:Heap} {nx id sz lo m:Nat} {ty:TypeId} {L:List α} {zs:List PVal} (ho:h id = some (.row sz ty (L.map c))) (hlo:lo + m = L.length) (hm:0 < m) (hmm:m = L.length - lo) (hz:zs = c x0) :
  core (.clear sz zs) [.own id sz lo m] h nx = some { v:=.hole,rh:=[id],wh:=[(id,some (.row sz ty ((L.take lo ++ List.replicate (L.length - lo) x0).map c)))] }:=by
 subst hz
 simp only [core,ho]
 rw [if_pos ⟨trivial,trivial,by simp; omega,hm⟩]
 have:(L.map c).drop (lo + m) = []:=by rw [List.drop_eq_nil_iff]; simp; omega
 simp [overE,this,List.map_take,← hmm]
theorem core_remT {h:Heap} {nx:AId} {ek:EK} {k:IntKind} {a b:Int} (hb:b ≠ 0):core (.bin .rem ek) [.int k a,.int k b] h nx = some { v:=.int k (Int.tmod a b) }:=by
 simp [core,coreBin,binV,binInt,hb]
theorem core_sliceRlo {α:Type} {c:α → List PVal} {h:Heap} {nx id sz n n':Nat} {ty:TypeId} {L:List α} {ik:IntKind} {i:Int} (lo:Nat) (ho:h id = some (.row sz ty (L.map c))) (hi:i = (lo:Int)) (hn:lo ≤ n) (hn':n - lo = n') :
  core (.slice sz true false) [.own id sz 0 n,.int ik i] h nx = some { v:=.own id sz lo n',rh:=[id] }:=by
 subst hi hn'
 simp only [core,ho,sbnd]
 rw [if_pos ⟨by omega,by omega⟩]
 simp
theorem core_sliceRhiM {α:Type} {c:α → List PVal} {h:Heap} {nx id sz m:Nat} {ty:TypeId} {L:List α} {ik:IntKind} {i:Int} (ho:h id = some (.row sz ty (L.map c))) (h0:0 ≤ i) (h1:i ≤ (m:Int)) (hm:m ≤ L.length) :
  core (.slice sz false true) [.own id sz 0 m,.int ik i] h nx = some { v:=.own id sz 0 (L.take i.toNat).length,rh:=[id] }:=by
 have e:(L.take i.toNat).length = i.toNat:=by rw [List.length_take]; omega
 rw [e]
 simp only [core,ho,sbnd]
 rw [if_pos ⟨h0,h1⟩]
 simp
theorem cpy_len {α:Type} (L X:List α):(cpy_ L X).length = L.length:=by
 simp only [cpy_,List.length_append,List.length_take,List.length_drop]
 omega
end Go.Proofs.YtmfggjebbhdejaaGreat.Abs
