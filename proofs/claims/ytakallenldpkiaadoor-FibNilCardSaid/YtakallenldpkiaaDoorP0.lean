/- Words for what the program computes: arithmetic of fixed width. -/
import Derived.Test.YtakallenldpkiaaDoorA1
namespace Go.Proofs.YtakallenldpkiaaDoor.Abs
open Go

def bit_and (k : IntKind) (a b : Int) : Int := k.wrap (BitVec.ofInt k.bits a &&& BitVec.ofInt k.bits b).toNat
def bit_or (k : IntKind) (a b : Int) : Int := k.wrap (BitVec.ofInt k.bits a ||| BitVec.ofInt k.bits b).toNat
def bit_xor (k : IntKind) (a b : Int) : Int := k.wrap (BitVec.ofInt k.bits a ^^^ BitVec.ofInt k.bits b).toNat
def bit_andNot (k : IntKind) (a b : Int) : Int := k.wrap (BitVec.ofInt k.bits a &&& ~~~BitVec.ofInt k.bits b).toNat
def max_ (a b : Int) : Int := if a < b then b else a
def min_ (a b : Int) : Int := if b < a then b else a
def shl_ (k : IntKind) (a b : Int) : Int := k.wrap (a * 2 ^ min b.toNat k.bits)
def shr_ (k : IntKind) (a b : Int) : Int := a.fdiv (2 ^ min b.toNat k.bits)
/-- How many rounds a loop takes at most that counts up from i to B. -/
def fuelUp (i B : Int) : Nat := if -9223372036854775808 ≤ i ∧ i < 9223372036854775808 then (B - i).toNat else 18446744073709551618
/-- Laid into a row; taken out of it; what a map has; set in a map. -/
def ins_ {α : Type} (L : List α) (i : Int) (V : List α) : List α := L.take i.toNat ++ V ++ L.drop i.toNat
def del_ {α : Type} (L : List α) (i j : Int) : List α := L.take i.toNat ++ L.drop j.toNat
def findM {β : Type} : List (Int × β) → Int → Option β
  | [], _ => none
  | (k, y) :: r, q => if q = k then some y else findM r q
/-- The same with any keys. -/
def findQ {κ β : Type} (eq : κ → κ → Bool) : List (κ × β) → κ → Option β
  | [], _ => none
  | (k, y) :: r, q => bif eq q k then some y else findQ eq r q
def setQ {κ β : Type} (eq : κ → κ → Bool) : List (κ × β) → κ → β → List (κ × β)
  | [], q, y => [(q, y)]
  | (k, z) :: r, q, y => bif eq q k then (q, y) :: r else (k, z) :: setQ eq r q y
def delQ {κ β : Type} (eq : κ → κ → Bool) : List (κ × β) → κ → List (κ × β)
  | [], _ => []
  | (k, z) :: r, q => bif eq q k then r else (k, z) :: delQ eq r q
/-- A map with strings as keys: its clock, its entries with their stamps. -/
abbrev QMap (β : Type) := Nat × List (Nat × ByteArray × β)
def findEQ {β : Type} (k : ByteArray) : List (Nat × ByteArray × β) → Option (Nat × β)
  | [] => none
  | (s, k', x) :: r => bif k == k' then some (s, x) else findEQ k r
def delEQ {β : Type} (k : ByteArray) : List (Nat × ByteArray × β) → List (Nat × ByteArray × β)
  | [] => []
  | (s, k', x) :: r => bif k == k' then r else (s, k', x) :: delEQ k r
def putEQ {β : Type} (s : Int) (x : β) : List (Nat × ByteArray × β) → List (Nat × ByteArray × β)
  | [] => []
  | (s', k, y) :: r => bif decide ((s' : Int) = s) then (s', k, x) :: r else (s', k, y) :: putEQ s x r
def hasEQ {β : Type} (s : Int) : List (Nat × ByteArray × β) → Bool
  | [] => false
  | (s', k, y) :: r => bif decide ((s' : Int) = s) then true else hasEQ s r
def qlook {β : Type} (m : QMap β) (k : ByteArray) : Option β := (findEQ k m.2).map (·.2)
def qstamp {β : Type} (m : QMap β) (k : ByteArray) : Int := match findEQ k m.2 with
  | some (s, _) => s
  | none => m.1
def qent {β : Type} (m : QMap β) (k : ByteArray) (z : β) : QMap β := match findEQ k m.2 with
  | some _ => m
  | none => (m.1 + 1, m.2 ++ [(m.1, k, z)])
def qdel {β : Type} (m : QMap β) (k : ByteArray) : QMap β := (m.1, delEQ k m.2)
def qput {β : Type} (m : QMap β) (s : Int) (x : β) : QMap β := (m.1, putEQ s x m.2)
def qhas {β : Type} (m : QMap β) (s : Int) : Bool := hasEQ s m.2
/-- A row without elements that stand behind one like them. -/
def compactQ {α : Type} (eq : α → α → Bool) : List α → List α
  | [] => []
  | [x] => [x]
  | x :: y :: r => bif eq y x then compactQ eq (x :: r) else x :: compactQ eq (y :: r)
termination_by l => l.length
def strEq (a b : ByteArray) : Bool := a == b
def setM {β : Type} : List (Int × β) → Int → β → List (Int × β)
  | [], q, y => [(q, y)]
  | (k, z) :: r, q, y => if q = k then (q, y) :: r else (k, z) :: setM r q y

/-- A string of bytes. -/
def bstr (l : List Nat) : ByteArray := ⟨(l.map UInt8.ofNat).toArray⟩
/-- A byte of a string. -/
def strAt (s : ByteArray) (i : Int) : Int := (((s.data.toList[i.toNat]?).map (·.toNat)).getD 0 : Nat)
/-- An element at an index, if there is one. -/
def getI {α : Type} (L : List α) (i : Int) : Option α := if 0 ≤ i then L[i.toNat]? else none
/-- Which of 2 function values. -/
inductive Lf2 where
  | l0 | l1
  deriving DecidableEq, Inhabited
/-- Which of 3 function values. -/
inductive Lf3 where
  | l0 | l1 | l2
  deriving DecidableEq, Inhabited
/-- Which of 4 function values. -/
inductive Lf4 where
  | l0 | l1 | l2 | l3
  deriving DecidableEq, Inhabited
/-- Which of 5 function values. -/
inductive Lf5 where
  | l0 | l1 | l2 | l3 | l4
  deriving DecidableEq, Inhabited
/-- Which of 6 function values. -/
inductive Lf6 where
  | l0 | l1 | l2 | l3 | l4 | l5
  deriving DecidableEq, Inhabited

/-- Elements laid over the first ones. -/
def cpy_ {α : Type} (L X : List α) : List α := X.take L.length ++ L.drop (X.take L.length).length

/-- What comes behind a guarded call, and behind a guarded loop that may return. -/
def obind {α β : Type} (o : Option α) (f : α → Option β) : Option β := match o with
  | none => none
  | some x => f x
def oexc {α ε β : Type} (o : Option (Except ε α)) (fe : ε → Option β) (f : α → Option β) : Option β := match o with
  | none => none
  | some (.error e) => fe e
  | some (.ok x) => f x
theorem obind_inv {α β : Type} {o : Option α} {f : α → Option β} {r : β} (h : obind o f = some r) : ∃ x, o = some x ∧ f x = some r := by
  cases o with
  | none => cases h
  | some x => exact ⟨x, rfl, h⟩
theorem obind_cases {α β : Type} {o : Option α} {f : α → Option β} {r : Option β} (h : obind o f = r) : (o = none ∧ none = r) ∨ ∃ x, o = some x ∧ f x = r := by
  cases o with
  | none => exact .inl ⟨rfl, h⟩
  | some x => exact .inr ⟨x, rfl, h⟩
theorem obind_n {α β : Type} {f : α → Option β} {r : Option β} (h : obind none f = r) : none = r := h
theorem obind_s {α β : Type} {x : α} {f : α → Option β} {r : Option β} (h : obind (some x) f = r) : f x = r := h
theorem oexc_n {α ε β : Type} {fe : ε → Option β} {f : α → Option β} {r : Option β} (h : oexc (none : Option (Except ε α)) fe f = r) : none = r := h
theorem oexc_e {α ε β : Type} {e : ε} {fe : ε → Option β} {f : α → Option β} {r : Option β} (h : oexc (some (.error e) : Option (Except ε α)) fe f = r) : fe e = r := h
theorem oexc_k {α ε β : Type} {x : α} {fe : ε → Option β} {f : α → Option β} {r : Option β} (h : oexc (some (.ok x) : Option (Except ε α)) fe f = r) : f x = r := h

end Go.Proofs.YtakallenldpkiaaDoor.Abs
