/- Words for what the program computes: arithmetic of fixed width. -/
import Derived.Test.YtakallenldpkiaaGreatDoorA1
namespace Go.Proofs.YtakallenldpkiaaGreatDoor.Abs
open Go
def bit_and (k:IntKind) (a b:Int):Int:=k.wrap (BitVec.ofInt k.bits a &&& BitVec.ofInt k.bits b).toNat
def bit_xor (k:IntKind) (a b:Int):Int:=k.wrap (BitVec.ofInt k.bits a ^^^ BitVec.ofInt k.bits b).toNat
def bit_andNot (k:IntKind) (a b:Int):Int:=k.wrap (BitVec.ofInt k.bits a &&& ~~~BitVec.ofInt k.bits b).toNat
def max_ (a b:Int):Int:=if a < b then b else a
def min_ (a b:Int):Int:=if b < a then b else a
def shl_ (k:IntKind) (a b:Int):Int:=k.wrap (a * 2 ^ min b.toNat k.bits)
def shr_ (k:IntKind) (a b:Int):Int:=a.fdiv (2 ^ min b.toNat k.bits)
def fuelUp (i B:Int):Nat:=if -9223372036854775808 ≤ i ∧ i < 9223372036854775808 then (B - i).toNat else 18446744073709551618
def findQ {κ β:Type} (eq:κ → κ → Bool):List (κ × β) → κ → Option β
 | [],_=>none
 | (k,y) :: r,q=>bif eq q k then some y else findQ eq r q
def setQ {κ β:Type} (eq:κ → κ → Bool):List (κ × β) → κ → β → List (κ × β)
 | [],q,y=>[(q,y)]
 | (k,z) :: r,q,y=>bif eq q k then (q,y) :: r else (k,z) :: setQ eq r q y
abbrev QMap (β:Type):=Nat × List (Nat × ByteArray × β)
def findEQ {β:Type} (k:ByteArray):List (Nat × ByteArray × β) → Option (Nat × β)
 | []=>none
 | (s,k',x) :: r=>bif k == k' then some (s,x) else findEQ k r
def delEQ {β:Type} (k:ByteArray):List (Nat × ByteArray × β) → List (Nat × ByteArray × β)
 | []=>[]
 | (s,k',x) :: r=>bif k == k' then r else (s,k',x) :: delEQ k r
def putEQ {β:Type} (s:Int) (x:β):List (Nat × ByteArray × β) → List (Nat × ByteArray × β)
 | []=>[]
 | (s',k,y) :: r=>bif decide ((s':Int) = s) then (s',k,x) :: r else (s',k,y) :: putEQ s x r
def hasEQ {β:Type} (s:Int):List (Nat × ByteArray × β) → Bool
 | []=>false
 | (s',k,y) :: r=>bif decide ((s':Int) = s) then true else hasEQ s r
def qlook {β:Type} (m:QMap β) (k:ByteArray):Option β:=(findEQ k m.2).map (·.2)
def qstamp {β:Type} (m:QMap β) (k:ByteArray):Int:=match findEQ k m.2 with
 | some (s,_)=>s
 | none=>m.1
def qent {β:Type} (m:QMap β) (k:ByteArray) (z:β):QMap β:=match findEQ k m.2 with
 | some _=>m
 | none=>(m.1 + 1,m.2 ++ [(m.1,k,z)])
def qdel {β:Type} (m:QMap β) (k:ByteArray):QMap β:=(m.1,delEQ k m.2)
def qput {β:Type} (m:QMap β) (s:Int) (x:β):QMap β:=(m.1,putEQ s x m.2)
def qhas {β:Type} (m:QMap β) (s:Int):Bool:=hasEQ s m.2
def compactQ {α:Type} (eq:α → α → Bool):List α → List α
 | []=>[]
 | [x]=>[x]
 | x :: y :: r=>bif eq y x then compactQ eq (x :: r) else x :: compactQ eq (y :: r)
termination_by l=>l.length
def bstr (l:List Nat):ByteArray:=⟨(l.map UInt8.ofNat).toArray⟩
def strAt (s:ByteArray) (i:Int):Int:=(((s.data.toList[i.toNat]?).map (·.toNat)).getD 0:Nat)
def getI {α:Type} (L:List α) (i:Int):Option α:=if 0 ≤ i then L[i.toNat]? else none
def obind {α β:Type} (o:Option α) (f:α → Option β):Option β:=match o with
 | none=>none
 | some x=>f x
def oexc {α ε β:Type} (o:Option (Except ε α)) (fe:ε → Option β) (f:α → Option β):Option β:=match o with
 | none=>none
 | some (.error e)=>fe e
 | some (.ok x)=>f x
theorem zz {α β:Type} {o:Option α} {f:α → Option β} {r:β} (h:obind o f = some r) : ∃ x,o = some x ∧ f x = some r:=by
 cases o with
 | none=>cases h
 | some x=>exact ⟨x,rfl,h⟩
theorem zw {α β:Type} {o:Option α} {f:α → Option β} {r:Option β} (h:obind o f = r):(o = none ∧ none = r) ∨ ∃ x,o = some x ∧ f x = r:=by
 cases o with
 | none=>exact .inl ⟨rfl,h⟩
 | some x=>exact .inr ⟨x,rfl,h⟩
theorem zq {α β:Type} {f:α → Option β} {r:Option β} (h:obind none f = r):none = r:=h
theorem obind_s {α β:Type} {x:α} {f:α → Option β} {r:Option β} (h:obind (some x) f = r):f x = r:=h
theorem oexc_n {α ε β:Type} {fe:ε → Option β} {f:α → Option β} {r:Option β} (h:oexc (none:Option (Except ε α)) fe f = r):none = r:=h
theorem oexc_e {α ε β:Type} {e:ε} {fe:ε → Option β} {f:α → Option β} {r:Option β} (h:oexc (some (.error e):Option (Except ε α)) fe f = r):fe e = r:=h
theorem oexc_k {α ε β:Type} {x:α} {fe:ε → Option β} {f:α → Option β} {r:Option β} (h:oexc (some (.ok x):Option (Except ε α)) fe f = r):f x = r:=h
end Go.Proofs.YtakallenldpkiaaGreatDoor.Abs
