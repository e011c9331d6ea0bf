/- Words for what the program computes: arithmetic of fixed width. -/
import Derived.Test.YtmfggjebbhdejaaGreatA1
namespace Go.Proofs.YtmfggjebbhdejaaGreat.Abs
open Go
def bit_and (k:IntKind) (a b:Int):Int:=k.wrap (BitVec.ofInt k.bits a &&& BitVec.ofInt k.bits b).toNat
def bit_andNot (k:IntKind) (a b:Int):Int:=k.wrap (BitVec.ofInt k.bits a &&& ~~~BitVec.ofInt k.bits b).toNat
def max_ (a b:Int):Int:=if a < b then b else a
def min_ (a b:Int):Int:=if b < a then b else a
def shl_ (k:IntKind) (a b:Int):Int:=k.wrap (a * 2 ^ min b.toNat k.bits)
def shr_ (k:IntKind) (a b:Int):Int:=a.fdiv (2 ^ min b.toNat k.bits)
def ins_ {α:Type} (L:List α) (i:Int) (V:List α):List α:=L.take i.toNat ++ V ++ L.drop i.toNat
def del_ {α:Type} (L:List α) (i j:Int):List α:=L.take i.toNat ++ L.drop j.toNat
def bstr (l:List Nat):ByteArray:=⟨(l.map UInt8.ofNat).toArray⟩
def getI {α:Type} (L:List α) (i:Int):Option α:=if 0 ≤ i then L[i.toNat]? else none
def cpy_ {α:Type} (L X:List α):List α:=X.take L.length ++ L.drop (X.take L.length).length
def obind {α β:Type} (o:Option α) (f:α → Option β):Option β:=match o with
 | none=>none
 | some x=>f x
def oexc {α ε β:Type} (o:Option (Except ε α)) (fe:ε → Option β) (f:α → Option β):Option β:=match o with
 | none=>none
 | some (.error e)=>fe e
 | some (.ok x)=>f x
theorem wx {α β:Type} {o:Option α} {f:α → Option β} {r:β} (h:obind o f = some r) : ∃ x,o = some x ∧ f x = some r:=by
 cases o with
 | none=>cases h
 | some x=>exact ⟨x,rfl,h⟩
theorem wy {α β:Type} {o:Option α} {f:α → Option β} {r:Option β} (h:obind o f = r):(o = none ∧ none = r) ∨ ∃ x,o = some x ∧ f x = r:=by
 cases o with
 | none=>exact .inl ⟨rfl,h⟩
 | some x=>exact .inr ⟨x,rfl,h⟩
theorem wz {α β:Type} {f:α → Option β} {r:Option β} (h:obind none f = r):none = r:=h
theorem obind_s {α β:Type} {x:α} {f:α → Option β} {r:Option β} (h:obind (some x) f = r):f x = r:=h
theorem oexc_n {α ε β:Type} {fe:ε → Option β} {f:α → Option β} {r:Option β} (h:oexc (none:Option (Except ε α)) fe f = r):none = r:=h
theorem oexc_e {α ε β:Type} {e:ε} {fe:ε → Option β} {f:α → Option β} {r:Option β} (h:oexc (some (.error e):Option (Except ε α)) fe f = r):fe e = r:=h
theorem oexc_k {α ε β:Type} {x:α} {fe:ε → Option β} {f:α → Option β} {r:Option β} (h:oexc (some (.ok x):Option (Except ε α)) fe f = r):f x = r:=h
end Go.Proofs.YtmfggjebbhdejaaGreat.Abs
