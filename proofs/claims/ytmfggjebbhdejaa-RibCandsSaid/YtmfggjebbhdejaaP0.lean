/- Words for what the program computes: arithmetic of fixed width. -/
import Derived.Test.YtmfggjebbhdejaaA1
namespace Go.Proofs.Ytmfggjebbhdejaa.Abs
open Go

def bit_and (k : IntKind) (a b : Int) : Int := k.wrap (BitVec.ofInt k.bits a &&& BitVec.ofInt k.bits b).toNat
def bit_or (k : IntKind) (a b : Int) : Int := k.wrap (BitVec.ofInt k.bits a ||| BitVec.ofInt k.bits b).toNat
def bit_xor (k : IntKind) (a b : Int) : Int := k.wrap (BitVec.ofInt k.bits a ^^^ BitVec.ofInt k.bits b).toNat
def bit_andNot (k : IntKind) (a b : Int) : Int := k.wrap (BitVec.ofInt k.bits a &&& ~~~BitVec.ofInt k.bits b).toNat
def max_ (a b : Int) : Int := if a < b then b else a
def min_ (a b : Int) : Int := if b < a then b else a
def shl_ (k : IntKind) (a b : Int) : Int := k.wrap (a * 2 ^ min b.toNat k.bits)
def shr_ (k : IntKind) (a b : Int) : Int := a.fdiv (2 ^ min b.toNat k.bits)
/-- How many rounds a loop takes at most that counts up from i to B. -/
def fuelUp (i B : Int) : Nat := if -9223372036854775808 ≤ i ∧ i < 9223372036854775808 then (B - i).toNat else 18446744073709551618
/-- Laid into a row; taken out of it; what a map has; set in a map. -/
def ins_ {α : Type} (L : List α) (i : Int) (V : List α) : List α := L.take i.toNat ++ V ++ L.drop i.toNat
def del_ {α : Type} (L : List α) (i j : Int) : List α := L.take i.toNat ++ L.drop j.toNat
def findM {β : Type} : List (Int × β) → Int → Option β
  | [], _ => none
  | (k, y) :: r, q => if q = k then some y else findM r q
def setM {β : Type} : List (Int × β) → Int → β → List (Int × β)
  | [], q, y => [(q, y)]
  | (k, z) :: r, q, y => if q = k then (q, y) :: r else (k, z) :: setM r q y

/-- A string of bytes. -/
def bstr (l : List Nat) : ByteArray := ⟨(l.map UInt8.ofNat).toArray⟩
/-- A byte of a string. -/
def strAt (s : ByteArray) (i : Int) : Int := (((s.data.toList[i.toNat]?).map (·.toNat)).getD 0 : Nat)
/-- An element at an index, if there is one. -/
def getI {α : Type} (L : List α) (i : Int) : Option α := if 0 ≤ i then L[i.toNat]? else none
/-- Which of 2 function values. -/
inductive Lf2 where
  | l0 | l1
  deriving DecidableEq, Inhabited
/-- Which of 3 function values. -/
inductive Lf3 where
  | l0 | l1 | l2
  deriving DecidableEq, Inhabited
/-- Which of 4 function values. -/
inductive Lf4 where
  | l0 | l1 | l2 | l3
  deriving DecidableEq, Inhabited
/-- Which of 5 function values. -/
inductive Lf5 where
  | l0 | l1 | l2 | l3 | l4
  deriving DecidableEq, Inhabited
/-- Which of 6 function values. -/
inductive Lf6 where
  | l0 | l1 | l2 | l3 | l4 | l5
  deriving DecidableEq, Inhabited

end Go.Proofs.Ytmfggjebbhdejaa.Abs
