/- The functions of the program as Lean functions (printed by this work's own program gen.py). -/
import Derived.Test.YtakallenldpkiaaP0
set_option linter.unusedVariables false
set_option maxRecDepth 100000
namespace Go.Proofs.Ytakallenldpkiaa.Abs
open Go

structure TPrefix where
  A : Int
  N : Int
  deriving DecidableEq, Inhabited
structure TS where
  e0 : Int
  e1 : Int
  deriving DecidableEq, Inhabited
structure TNode where
  p : TPrefix
  v : Int
  isf : Bool
  kids : TS
  deriving DecidableEq, Inhabited
structure TTrie where
  l : List TNode
  free : List Int
  root : Int
  n : Int
  deriving DecidableEq, Inhabited
structure TEntry where
  P : TPrefix
  V : Int
  deriving DecidableEq, Inhabited
structure TAct where
  Drop : Bool
  P : TPrefix
  V : Int
  A : Int
  deriving DecidableEq, Inhabited

/-- crossroads/trie.New -/
def F9_trie_New : TTrie :=
  (⟨([] : List TNode), ([] : List Int), (-1), 0⟩ : TTrie)

/-- (*crossroads/trie.Trie).Above$1 -/
def F37_trie_Trie_Above_1 (x0 : TNode) (a1 : List TEntry) : Option (List TEntry) :=
  (bif x0.isf then
    (bif decide (a1.length < 1099511627776) then
      some (a1 ++ ([(⟨x0.p, x0.v⟩ : TEntry)] : List TEntry))
    else none)
  else
    some a1)

/-- crossroads/addr.isLong -/
def F39_addr_isLong (n0 : Int) : Bool :=
  ((decide (0 ≤ n0)) && (decide (n0 ≤ 32)))

/-- crossroads/addr.Mask -/
def F40_addr_Mask (n0 : Int) : Int :=
  IntKind.u32.wrap (shl_ .u64 4294967295 (IntKind.i64.wrap (32 - (min_ (max_ n0 0) 32))))

/-- crossroads/addr.May -/
def F30_addr_May (p0 : TPrefix) : Bool :=
  (let c5 := F39_addr_isLong p0.N
   (c5 && (let c11 := F40_addr_Mask p0.N
    decide (bit_andNot .u32 p0.A c11 = 0))))

/-- crossroads/addr.Has -/
def F46_addr_Has (p0 : TPrefix) (a1 : Int) : Bool :=
  (let c6 := F30_addr_May p0
   (c6 && (let c11 := F40_addr_Mask p0.N
    decide (bit_and .u32 a1 c11 = p0.A))))

/-- crossroads/addr.Covers -/
def F34_addr_Covers (p0 : TPrefix) (q1 : TPrefix) : Bool :=
  (let c6 := F30_addr_May q1
   (c6 && ((decide (p0.N ≤ q1.N)) && (F46_addr_Has p0 q1.A))))

/-- crossroads/addr.Bit -/
def F47_addr_Bit (a0 : Int) (i1 : Int) : Int :=
  (bif decide (i1 < 0) then
    0
  else
    (bif decide (32 ≤ i1) then 0 else IntKind.i64.wrap (bit_and .u32 (shr_ .u32 a0 (IntKind.i64.wrap (31 - i1))) 1)))

/-- crossroads/trie.side -/
def F43_trie_side (above0 : TPrefix) (p1 : TPrefix) : Int :=
  F47_addr_Bit p1.A above0.N

def F36_trie_Trie_down_l1 (t0 : TTrie) (p1 : TPrefix) (fuel0 : Nat) (i6 : Int) (row5 : List TEntry) : Option (Except (List TEntry) (Int × (List TEntry))) :=
  match fuel0 with
  | 0 => none
  | fuel0 + 1 => (bif decide (i6 = (-1)) then
        some (.ok (i6, row5))
      else
        (match getI t0.l i6 with
        | none => none
        | some x910 => 
          (let c26 := F34_addr_Covers x910.p p1
           (bif c26 then
             ((match F37_trie_Trie_Above_1 x910 row5 with
              | none => none
              | some c37 => 
                (bif decide (x910.p.N = p1.N) then
                  some (.error (c37))
                else
                  (let c47 := F43_trie_side x910.p p1
                   (bif decide (c47 = 0) then
                     F36_trie_Trie_down_l1 t0 p1 fuel0 x910.kids.e0 c37
                   else (bif decide (c47 = 1) then
                     F36_trie_Trie_down_l1 t0 p1 fuel0 x910.kids.e1 c37
                   else none))))))
           else
             some (.ok (i6, row5))))))
/-- (*crossroads/trie.Trie).down -/
def F36_trie_Trie_down (t0 : TTrie) (p1 : TPrefix) (a1_each2 : List TEntry) : Option (List TEntry) :=
  (match F36_trie_Trie_down_l1 t0 p1 100 t0.root a1_each2 with
  | none => none
  | some (.error r) => some r
  | some (.ok (i6, row5)) => some row5)

/-- (*crossroads/trie.Trie).Above -/
def F22_trie_Trie_Above (t0 : TTrie) (p1 : TPrefix) : Option (List TEntry) :=
  F36_trie_Trie_down t0 p1 ([] : List TEntry)

/-- (*crossroads/trie.Trie).Get -/
def F25_trie_Trie_Get (t0 : TTrie) (p1 : TPrefix) : Option (Int × Bool) :=
  ((match F22_trie_Trie_Above t0 p1 with
   | none => none
   | some c9 => 
     (bif decide ((c9.length : Int) = 0) then
       some (0, false)
     else
       (match getI c9 (IntKind.i64.wrap ((c9.length : Int) - 1)) with
       | none => none
       | some x902 => (bif decide (x902.P.A = p1.A) && (decide (x902.P.N = p1.N) && true) then some (x902.V, true) else some (0, false))))))

/-- (*crossroads/trie.Trie).add -/
def F41_trie_Trie_add (t0 : TTrie) (x1 : TNode) : Option (Int × TTrie) :=
  (bif decide (0 < (t0.free.length : Int)) then
    (match getI t0.free (IntKind.i64.wrap ((t0.free.length : Int) - 1)) with
    | none => none
    | some x902 => 
      (bif decide ((0 : Int) ≤ IntKind.i64.wrap ((t0.free.length : Int) - 1)) then
        (bif decide (IntKind.i64.wrap ((t0.free.length : Int) - 1) ≤ (t0.free.length : Int)) then
          (match getI t0.l x902 with
          | none => none
          | some x905 => some (x902, (⟨(t0.l.set x902.toNat x1), (t0.free.take (IntKind.i64.wrap ((t0.free.length : Int) - 1)).toNat), t0.root, t0.n⟩ : TTrie)))
        else none)
      else none))
  else
    (bif decide (t0.l.length < 1099511627776) then
      some (IntKind.i64.wrap (((t0.l ++ ([x1] : List TNode)).length : Int) - 1), (⟨(t0.l ++ ([x1] : List TNode)), t0.free, t0.root, t0.n⟩ : TTrie))
    else none))

/-- crossroads/trie.leaf -/
def F42_trie_leaf (p0 : TPrefix) (v1 : Int) : TNode :=
  (⟨p0, v1, true, (⟨(-1), (-1)⟩ : TS)⟩ : TNode)

/-- math/bits.Len32 -/
def F49_bits_Len32 (x0 : Int) : Int :=
  (bif decide (65536 ≤ x0) then
    (bif decide (256 ≤ (Int.fdiv x0 (2 ^ 16))) then
      IntKind.i64.wrap (24 + (IntKind.i64.wrap (strAt (bstr [0, 1, 2, 2, 3, 3, 3, 3, 4, 4, 4, 4, 4, 4, 4, 4, 5, 5, 5, 5, 5, 5, 5, 5, 5, 5, 5, 5, 5, 5, 5, 5, 6, 6, 6, 6, 6, 6, 6, 6, 6, 6, 6, 6, 6, 6, 6, 6, 6, 6, 6, 6, 6, 6, 6, 6, 6, 6, 6, 6, 6, 6, 6, 6, 7, 7, 7, 7, 7, 7, 7, 7, 7, 7, 7, 7, 7, 7, 7, 7, 7, 7, 7, 7, 7, 7, 7, 7, 7, 7, 7, 7, 7, 7, 7, 7, 7, 7, 7, 7, 7, 7, 7, 7, 7, 7, 7, 7, 7, 7, 7, 7, 7, 7, 7, 7, 7, 7, 7, 7, 7, 7, 7, 7, 7, 7, 7, 7, 8, 8, 8, 8, 8, 8, 8, 8, 8, 8, 8, 8, 8, 8, 8, 8, 8, 8, 8, 8, 8, 8, 8, 8, 8, 8, 8, 8, 8, 8, 8, 8, 8, 8, 8, 8, 8, 8, 8, 8, 8, 8, 8, 8, 8, 8, 8, 8, 8, 8, 8, 8, 8, 8, 8, 8, 8, 8, 8, 8, 8, 8, 8, 8, 8, 8, 8, 8, 8, 8, 8, 8, 8, 8, 8, 8, 8, 8, 8, 8, 8, 8, 8, 8, 8, 8, 8, 8, 8, 8, 8, 8, 8, 8, 8, 8, 8, 8, 8, 8, 8, 8, 8, 8, 8, 8, 8, 8, 8, 8, 8, 8, 8, 8, 8, 8, 8, 8, 8, 8, 8, 8, 8, 8, 8, 8, 8, 8]) (IntKind.u8.wrap (Int.fdiv (Int.fdiv x0 (2 ^ 16)) (2 ^ 8))))))
    else
      IntKind.i64.wrap (16 + (IntKind.i64.wrap (strAt (bstr [0, 1, 2, 2, 3, 3, 3, 3, 4, 4, 4, 4, 4, 4, 4, 4, 5, 5, 5, 5, 5, 5, 5, 5, 5, 5, 5, 5, 5, 5, 5, 5, 6, 6, 6, 6, 6, 6, 6, 6, 6, 6, 6, 6, 6, 6, 6, 6, 6, 6, 6, 6, 6, 6, 6, 6, 6, 6, 6, 6, 6, 6, 6, 6, 7, 7, 7, 7, 7, 7, 7, 7, 7, 7, 7, 7, 7, 7, 7, 7, 7, 7, 7, 7, 7, 7, 7, 7, 7, 7, 7, 7, 7, 7, 7, 7, 7, 7, 7, 7, 7, 7, 7, 7, 7, 7, 7, 7, 7, 7, 7, 7, 7, 7, 7, 7, 7, 7, 7, 7, 7, 7, 7, 7, 7, 7, 7, 7, 8, 8, 8, 8, 8, 8, 8, 8, 8, 8, 8, 8, 8, 8, 8, 8, 8, 8, 8, 8, 8, 8, 8, 8, 8, 8, 8, 8, 8, 8, 8, 8, 8, 8, 8, 8, 8, 8, 8, 8, 8, 8, 8, 8, 8, 8, 8, 8, 8, 8, 8, 8, 8, 8, 8, 8, 8, 8, 8, 8, 8, 8, 8, 8, 8, 8, 8, 8, 8, 8, 8, 8, 8, 8, 8, 8, 8, 8, 8, 8, 8, 8, 8, 8, 8, 8, 8, 8, 8, 8, 8, 8, 8, 8, 8, 8, 8, 8, 8, 8, 8, 8, 8, 8, 8, 8, 8, 8, 8, 8, 8, 8, 8, 8, 8, 8, 8, 8, 8, 8, 8, 8, 8, 8, 8, 8, 8, 8]) (IntKind.u8.wrap (Int.fdiv x0 (2 ^ 16)))))))
  else
    (bif decide (256 ≤ x0) then
      IntKind.i64.wrap (8 + (IntKind.i64.wrap (strAt (bstr [0, 1, 2, 2, 3, 3, 3, 3, 4, 4, 4, 4, 4, 4, 4, 4, 5, 5, 5, 5, 5, 5, 5, 5, 5, 5, 5, 5, 5, 5, 5, 5, 6, 6, 6, 6, 6, 6, 6, 6, 6, 6, 6, 6, 6, 6, 6, 6, 6, 6, 6, 6, 6, 6, 6, 6, 6, 6, 6, 6, 6, 6, 6, 6, 7, 7, 7, 7, 7, 7, 7, 7, 7, 7, 7, 7, 7, 7, 7, 7, 7, 7, 7, 7, 7, 7, 7, 7, 7, 7, 7, 7, 7, 7, 7, 7, 7, 7, 7, 7, 7, 7, 7, 7, 7, 7, 7, 7, 7, 7, 7, 7, 7, 7, 7, 7, 7, 7, 7, 7, 7, 7, 7, 7, 7, 7, 7, 7, 8, 8, 8, 8, 8, 8, 8, 8, 8, 8, 8, 8, 8, 8, 8, 8, 8, 8, 8, 8, 8, 8, 8, 8, 8, 8, 8, 8, 8, 8, 8, 8, 8, 8, 8, 8, 8, 8, 8, 8, 8, 8, 8, 8, 8, 8, 8, 8, 8, 8, 8, 8, 8, 8, 8, 8, 8, 8, 8, 8, 8, 8, 8, 8, 8, 8, 8, 8, 8, 8, 8, 8, 8, 8, 8, 8, 8, 8, 8, 8, 8, 8, 8, 8, 8, 8, 8, 8, 8, 8, 8, 8, 8, 8, 8, 8, 8, 8, 8, 8, 8, 8, 8, 8, 8, 8, 8, 8, 8, 8, 8, 8, 8, 8, 8, 8, 8, 8, 8, 8, 8, 8, 8, 8, 8, 8, 8, 8]) (IntKind.u8.wrap (Int.fdiv x0 (2 ^ 8))))))
    else
      IntKind.i64.wrap (0 + (IntKind.i64.wrap (strAt (bstr [0, 1, 2, 2, 3, 3, 3, 3, 4, 4, 4, 4, 4, 4, 4, 4, 5, 5, 5, 5, 5, 5, 5, 5, 5, 5, 5, 5, 5, 5, 5, 5, 6, 6, 6, 6, 6, 6, 6, 6, 6, 6, 6, 6, 6, 6, 6, 6, 6, 6, 6, 6, 6, 6, 6, 6, 6, 6, 6, 6, 6, 6, 6, 6, 7, 7, 7, 7, 7, 7, 7, 7, 7, 7, 7, 7, 7, 7, 7, 7, 7, 7, 7, 7, 7, 7, 7, 7, 7, 7, 7, 7, 7, 7, 7, 7, 7, 7, 7, 7, 7, 7, 7, 7, 7, 7, 7, 7, 7, 7, 7, 7, 7, 7, 7, 7, 7, 7, 7, 7, 7, 7, 7, 7, 7, 7, 7, 7, 8, 8, 8, 8, 8, 8, 8, 8, 8, 8, 8, 8, 8, 8, 8, 8, 8, 8, 8, 8, 8, 8, 8, 8, 8, 8, 8, 8, 8, 8, 8, 8, 8, 8, 8, 8, 8, 8, 8, 8, 8, 8, 8, 8, 8, 8, 8, 8, 8, 8, 8, 8, 8, 8, 8, 8, 8, 8, 8, 8, 8, 8, 8, 8, 8, 8, 8, 8, 8, 8, 8, 8, 8, 8, 8, 8, 8, 8, 8, 8, 8, 8, 8, 8, 8, 8, 8, 8, 8, 8, 8, 8, 8, 8, 8, 8, 8, 8, 8, 8, 8, 8, 8, 8, 8, 8, 8, 8, 8, 8, 8, 8, 8, 8, 8, 8, 8, 8, 8, 8, 8, 8, 8, 8, 8, 8, 8, 8]) (IntKind.u8.wrap x0))))))

/-- math/bits.LeadingZeros32 -/
def F48_bits_LeadingZeros32 (x0 : Int) : Int :=
  (let c4 := F49_bits_Len32 x0
   IntKind.i64.wrap (32 - c4))

/-- crossroads/addr.Common -/
def F44_addr_Common (p0 : TPrefix) (q1 : TPrefix) : TPrefix :=
  (let c7 := F30_addr_May p0
   (bif c7 then
     (let c11 := F30_addr_May q1
      (bif c11 then
        (let c24 := F48_bits_LeadingZeros32 (bit_xor .u32 p0.A q1.A)
         (let c29 := F40_addr_Mask (min_ (min_ p0.N q1.N) c24)
          (⟨bit_and .u32 p0.A c29, min_ (min_ p0.N q1.N) c24⟩ : TPrefix)))
      else
        (⟨0, 0⟩ : TPrefix)))
   else
     (⟨0, 0⟩ : TPrefix)))

/-- (*crossroads/trie.Trie).put -/
def F31_trie_Trie_put (fuel : Nat) (t0 : TTrie) (i1 : Int) (p2 : TPrefix) (v3 : Int) : Option (Int × TTrie) :=
  match fuel with
  | 0 => none
  | fuel + 1 =>
    (bif decide (i1 = (-1)) then
      (let c26 := F42_trie_leaf p2 v3
       F41_trie_Trie_add (⟨t0.l, t0.free, t0.root, IntKind.i64.wrap (t0.n + 1)⟩ : TTrie) c26)
    else
      (match getI t0.l i1 with
      | none => none
      | some x901 => 
        (bif (decide (x901.p.A = p2.A) && (decide (x901.p.N = p2.N) && true)) then
          (bif x901.isf then
            some (i1, (⟨((t0.l.set i1.toNat (⟨x901.p, v3, x901.isf, x901.kids⟩ : TNode)).set i1.toNat (⟨((⟨x901.p, v3, x901.isf, x901.kids⟩ : TNode).p), (⟨x901.p, v3, x901.isf, x901.kids⟩ : TNode).v, true, ((⟨x901.p, v3, x901.isf, x901.kids⟩ : TNode).kids)⟩ : TNode)), t0.free, t0.root, t0.n⟩ : TTrie))
          else
            some (i1, (⟨((t0.l.set i1.toNat (⟨x901.p, v3, x901.isf, x901.kids⟩ : TNode)).set i1.toNat (⟨((⟨x901.p, v3, x901.isf, x901.kids⟩ : TNode).p), (⟨x901.p, v3, x901.isf, x901.kids⟩ : TNode).v, true, ((⟨x901.p, v3, x901.isf, x901.kids⟩ : TNode).kids)⟩ : TNode)), t0.free, t0.root, IntKind.i64.wrap (t0.n + 1)⟩ : TTrie)))
        else
          (let c75 := F34_addr_Covers x901.p p2
           (bif c75 then
             (let c78 := F43_trie_side x901.p p2
              (bif decide (c78 = 0) then
                ((match F31_trie_Trie_put fuel t0 x901.kids.e0 p2 v3 with
                 | none => none
                 | some (c92a, c92b) => 
                   (match getI c92b.l i1 with
                   | none => none
                   | some x924 => some (i1, (⟨(c92b.l.set i1.toNat (⟨x924.p, x924.v, x924.isf, (⟨c92a, x924.kids.e1⟩ : TS)⟩ : TNode)), c92b.free, c92b.root, c92b.n⟩ : TTrie)))))
              else (bif decide (c78 = 1) then
                ((match F31_trie_Trie_put fuel t0 x901.kids.e1 p2 v3 with
                 | none => none
                 | some (c92a, c92b) => 
                   (match getI c92b.l i1 with
                   | none => none
                   | some x927 => some (i1, (⟨(c92b.l.set i1.toNat (⟨x927.p, x927.v, x927.isf, (⟨x927.kids.e0, c92a⟩ : TS)⟩ : TNode)), c92b.free, c92b.root, c92b.n⟩ : TTrie)))))
              else none)))
           else
             (let c113 := F42_trie_leaf p2 v3
              (let c116 := F34_addr_Covers p2 x901.p
               (bif c116 then
                 (let c119 := F43_trie_side p2 x901.p
                  (bif decide (c119 = 0) then
                    F41_trie_Trie_add (⟨t0.l, t0.free, t0.root, IntKind.i64.wrap (t0.n + 1)⟩ : TTrie) (⟨c113.p, c113.v, c113.isf, (⟨i1, c113.kids.e1⟩ : TS)⟩ : TNode)
                  else (bif decide (c119 = 1) then
                    F41_trie_Trie_add (⟨t0.l, t0.free, t0.root, IntKind.i64.wrap (t0.n + 1)⟩ : TTrie) (⟨c113.p, c113.v, c113.isf, (⟨c113.kids.e0, i1⟩ : TS)⟩ : TNode)
                  else none)))
               else
                 (let c128 := F44_addr_Common p2 x901.p
                  (let c134 := F43_trie_side c128 x901.p
                   (bif decide (c134 = 0) then
                     (let c141 := F43_trie_side c128 p2
                      ((match F41_trie_Trie_add (⟨t0.l, t0.free, t0.root, IntKind.i64.wrap (t0.n + 1)⟩ : TTrie) c113 with
                       | none => none
                       | some (c144a, c144b) => 
                         (bif decide (c141 = 0) then
                           F41_trie_Trie_add c144b (⟨c128, 0, false, (⟨c144a, (-1)⟩ : TS)⟩ : TNode)
                         else (bif decide (c141 = 1) then
                           F41_trie_Trie_add c144b (⟨c128, 0, false, (⟨i1, c144a⟩ : TS)⟩ : TNode)
                         else none)))))
                   else (bif decide (c134 = 1) then
                     (let c141 := F43_trie_side c128 p2
                      ((match F41_trie_Trie_add (⟨t0.l, t0.free, t0.root, IntKind.i64.wrap (t0.n + 1)⟩ : TTrie) c113 with
                       | none => none
                       | some (c144a, c144b) => 
                         (bif decide (c141 = 0) then
                           F41_trie_Trie_add c144b (⟨c128, 0, false, (⟨c144a, i1⟩ : TS)⟩ : TNode)
                         else (bif decide (c141 = 1) then
                           F41_trie_Trie_add c144b (⟨c128, 0, false, (⟨(-1), c144a⟩ : TS)⟩ : TNode)
                         else none)))))
                   else none))))))))))))

/-- (*crossroads/trie.Trie).Set -/
def F10_trie_Trie_Set (t0 : TTrie) (p1 : TPrefix) (v2 : Int) : Option (Int × TTrie) :=
  (let c13 := F30_addr_May p1
   (bif c13 then
     ((match F25_trie_Trie_Get t0 p1 with
      | none => none
      | some (c19a, c19b) => 
        (bif c19b then
          ((match F31_trie_Trie_put 100 t0 t0.root p1 v2 with
           | none => none
           | some (c39a, c39b) => some (0, (⟨c39b.l, c39b.free, c39a, c39b.n⟩ : TTrie))))
        else
          (bif decide (5000 ≤ t0.n) then
            some (8, t0)
          else
            ((match F31_trie_Trie_put 100 t0 t0.root p1 v2 with
             | none => none
             | some (c39a, c39b) => some (0, (⟨c39b.l, c39b.free, c39a, c39b.n⟩ : TTrie))))))))
   else
     some (1, t0)))

/-- (*crossroads/trie.Trie).Find -/
def F11_trie_Trie_Find (t0 : TTrie) (a1 : Int) : Option (TEntry × Bool) :=
  ((match F22_trie_Trie_Above t0 (⟨a1, 32⟩ : TPrefix) with
   | none => none
   | some c10 => 
     (bif decide ((c10.length : Int) = 0) then
       some ((⟨(⟨0, 0⟩ : TPrefix), 0⟩ : TEntry), false)
     else
       (match getI c10 (IntKind.i64.wrap ((c10.length : Int) - 1)) with
       | none => none
       | some x902 => some (x902, true)))))

/-- crossroads/crossroadslaw06.alive (run) -/
def F12_crossroadslaw06_alive : Bool := true

def F13_crossroadsref06_Same_l1 (b1 : List TEntry) : (i5 : Nat) → List TEntry → Except Bool Unit
  | i5, [] => .ok ()
  | i5, x5 :: l5 => (bif decide (x5.P.A = ((b1.getD i5 default).P).A) && (decide (x5.P.N = ((b1.getD i5 default).P).N) && (decide (x5.V = (b1.getD i5 default).V) && true)) then F13_crossroadsref06_Same_l1 b1 (i5 + 1) l5 else .error (false))
/-- crossroads/crossroadsref06.Same -/
def F13_crossroadsref06_Same (a0 : List TEntry) (b1 : List TEntry) : Bool :=
  ((decide ((a0.length : Int) = (b1.length : Int))) && (match F13_crossroadsref06_Same_l1 b1 0 a0 with
  | .error r => r
  | .ok _ => true))

/-- (*crossroads/trie.Trie).Below$1 -/
def F33_trie_Trie_Below_1 (fuel : Nat) (i0 : Int) (a1 : TTrie) (a2 : TPrefix) (a3 : List TEntry) : Option (List TEntry) :=
  match fuel with
  | 0 => none
  | fuel + 1 =>
    (bif decide (i0 = (-1)) then
      some a3
    else
      (match getI a1.l i0 with
      | none => none
      | some x901 => 
        (bif x901.isf then
          (let c22 := F34_addr_Covers a2 x901.p
           (bif c22 then
             (bif decide (a3.length < 1099511627776) then
               (((match F33_trie_Trie_Below_1 fuel x901.kids.e0 a1 a2 (a3 ++ ([(⟨x901.p, x901.v⟩ : TEntry)] : List TEntry)) with
                 | none => none
                 | some c46 => F33_trie_Trie_Below_1 fuel x901.kids.e1 a1 a2 c46)))
             else none)
           else
             ((let c40 := F34_addr_Covers x901.p a2
               (bif c40 then
                 ((match F33_trie_Trie_Below_1 fuel x901.kids.e0 a1 a2 a3 with
                  | none => none
                  | some c46 => F33_trie_Trie_Below_1 fuel x901.kids.e1 a1 a2 c46))
               else
                 some a3)))))
        else
          (let c35 := F34_addr_Covers a2 x901.p
           (bif c35 then
             ((match F33_trie_Trie_Below_1 fuel x901.kids.e0 a1 a2 a3 with
              | none => none
              | some c46 => F33_trie_Trie_Below_1 fuel x901.kids.e1 a1 a2 c46))
           else
             (let c40 := F34_addr_Covers x901.p a2
              (bif c40 then
                ((match F33_trie_Trie_Below_1 fuel x901.kids.e0 a1 a2 a3 with
                 | none => none
                 | some c46 => F33_trie_Trie_Below_1 fuel x901.kids.e1 a1 a2 c46))
              else
                some a3)))))))

/-- (*crossroads/trie.Trie).Below -/
def F20_trie_Trie_Below (t0 : TTrie) (p1 : TPrefix) : Option (List TEntry) :=
  (let c11 := F30_addr_May p1
   (bif c11 then
     F33_trie_Trie_Below_1 100 t0.root t0 p1 ([] : List TEntry)
   else
     some ([] : List TEntry)))

/-- (*crossroads/trie.Trie).Walk -/
def F14_trie_Trie_Walk (t0 : TTrie) : Option (List TEntry) :=
  F20_trie_Trie_Below t0 (⟨0, 0⟩ : TPrefix)

/-- (*crossroads/trie.Trie).Len -/
def F15_trie_Trie_Len (t0 : TTrie) : Int :=
  t0.n

def F3_crossroadslaw06_TrieAlike_l1 (script0 : List TAct) (fuel8 : Nat) (t_2_5 : Int) (t_3_5 : Int) (row1 : List TNode) (row2 : List Int) (u_2_6 : Int) (u_3_6 : Int) (row4 : List TNode) (row5 : List Int) (i8 : Int) : Option (Int × Int × (List TNode) × (List Int) × Int × Int × (List TNode) × (List Int)) :=
  bif decide (i8 < min_ (script0.length : Int) 150) then
    match fuel8 with
    | 0 => some (t_2_5, t_3_5, row1, row2, u_2_6, u_3_6, row4, row5)
    | fuel8 + 1 => (match getI script0 i8 with
        | none => none
        | some x929 => 
          ((match F10_trie_Trie_Set (⟨row1, row2, t_2_5, t_3_5⟩ : TTrie) x929.P 7 with
           | none => none
           | some (c35a, c35b) => 
             (match getI script0 (IntKind.i64.wrap ((IntKind.i64.wrap ((min_ (script0.length : Int) 150) - 1)) - i8)) with
             | none => none
             | some x931 => 
               ((match F10_trie_Trie_Set (⟨row4, row5, u_2_6, u_3_6⟩ : TTrie) x931.P 7 with
                | none => none
                | some (c45a, c45b) => 
                  ((match F10_trie_Trie_Set c45b x931.P 7 with
                   | none => none
                   | some (c55a, c55b) => F3_crossroadslaw06_TrieAlike_l1 script0 fuel8 c35b.root c35b.n c35b.l c35b.free c55b.root c55b.n c55b.l c55b.free (IntKind.i64.wrap (i8 + 1))))))))))
  else some (t_2_5, t_3_5, row1, row2, u_2_6, u_3_6, row4, row5)
/-- crossroads/crossroadslaw06.TrieAlike -/
def F3_crossroadslaw06_TrieAlike (script0 : List TAct) (a1 : Int) : Option Bool :=
  (let c13 := F9_trie_New
   ((match F3_crossroadslaw06_TrieAlike_l1 script0 (fuelUp 0 (min_ (script0.length : Int) 150)) c13.root c13.n c13.l c13.free c13.root c13.n c13.l c13.free 0 with
    | none => none
    | some (t_2_5, t_3_5, row1, row2, u_2_6, u_3_6, row4, row5) => 
      ((match F11_trie_Trie_Find (⟨row1, row2, t_2_5, t_3_5⟩ : TTrie) a1 with
       | none => none
       | some (c59a, c59b) => 
         ((match F11_trie_Trie_Find (⟨row4, row5, u_2_6, u_3_6⟩ : TTrie) a1 with
          | none => none
          | some (c65a, c65b) => 
            (let c68 := F12_crossroadslaw06_alive
             (bif c68 then
               ((match F14_trie_Trie_Walk (⟨row1, row2, t_2_5, t_3_5⟩ : TTrie) with
                | none => none
                | some c71 => 
                  ((match F14_trie_Trie_Walk (⟨row4, row5, u_2_6, u_3_6⟩ : TTrie) with
                   | none => none
                   | some c73 => 
                     (let c74 := F13_crossroadsref06_Same c71 c73
                      (bif c74 then
                        (bif (decide (c59a.P.A = c65a.P.A) && (decide (c59a.P.N = c65a.P.N) && (decide (c59a.V = c65a.V) && true))) then
                          (bif (c59b == c65b) then
                            (let c88 := F15_trie_Trie_Len (⟨row1, row2, t_2_5, t_3_5⟩ : TTrie)
                             (let c90 := F15_trie_Trie_Len (⟨row4, row5, u_2_6, u_3_6⟩ : TTrie)
                              some (decide (c88 = c90))))
                          else
                            some false)
                        else
                          some false)
                      else
                        some false))))))
             else
               some false)))))))))

/-- (*crossroads/trie.Trie).tidy -/
def F45_trie_Trie_tidy (t0 : TTrie) (i1 : Int) : Option (Int × TTrie) :=
  (match getI t0.l i1 with
  | none => none
  | some x900 => 
    (bif x900.isf then
      some (i1, t0)
    else
      (bif decide (x900.kids.e0 = (-1)) then
        (bif decide (t0.free.length < 1099511627776) then
          some (max_ x900.kids.e0 x900.kids.e1, (⟨t0.l, (t0.free ++ ([i1] : List Int)), t0.root, t0.n⟩ : TTrie))
        else none)
      else
        (bif decide (x900.kids.e1 = (-1)) then
          (bif decide (t0.free.length < 1099511627776) then
            some (max_ x900.kids.e0 x900.kids.e1, (⟨t0.l, (t0.free ++ ([i1] : List Int)), t0.root, t0.n⟩ : TTrie))
          else none)
        else
          some (i1, t0)))))

/-- (*crossroads/trie.Trie).cut -/
def F32_trie_Trie_cut (fuel : Nat) (t0 : TTrie) (i1 : Int) (p2 : TPrefix) : Option (Int × TTrie) :=
  match fuel with
  | 0 => none
  | fuel + 1 =>
    (match getI t0.l i1 with
    | none => none
    | some x900 => 
      (bif (decide (x900.p.A = p2.A) && (decide (x900.p.N = p2.N) && true)) then
        F45_trie_Trie_tidy (⟨((t0.l.set i1.toNat (⟨x900.p, x900.v, false, x900.kids⟩ : TNode)).set i1.toNat (⟨((⟨x900.p, x900.v, false, x900.kids⟩ : TNode).p), 0, (⟨x900.p, x900.v, false, x900.kids⟩ : TNode).isf, ((⟨x900.p, x900.v, false, x900.kids⟩ : TNode).kids)⟩ : TNode)), t0.free, t0.root, t0.n⟩ : TTrie) i1
      else
        (let c45 := F43_trie_side x900.p p2
         (bif decide (c45 = 0) then
           ((match F32_trie_Trie_cut fuel t0 x900.kids.e0 p2 with
            | none => none
            | some (c58a, c58b) => 
              (match getI c58b.l i1 with
              | none => none
              | some x904 => F45_trie_Trie_tidy (⟨(c58b.l.set i1.toNat (⟨x904.p, x904.v, x904.isf, (⟨c58a, x904.kids.e1⟩ : TS)⟩ : TNode)), c58b.free, c58b.root, c58b.n⟩ : TTrie) i1)))
         else (bif decide (c45 = 1) then
           ((match F32_trie_Trie_cut fuel t0 x900.kids.e1 p2 with
            | none => none
            | some (c58a, c58b) => 
              (match getI c58b.l i1 with
              | none => none
              | some x908 => F45_trie_Trie_tidy (⟨(c58b.l.set i1.toNat (⟨x908.p, x908.v, x908.isf, (⟨x908.kids.e0, c58a⟩ : TS)⟩ : TNode)), c58b.free, c58b.root, c58b.n⟩ : TTrie) i1)))
         else none)))))

/-- (*crossroads/trie.Trie).Drop -/
def F16_trie_Trie_Drop (t0 : TTrie) (p1 : TPrefix) : Option (Bool × TTrie) :=
  ((match F25_trie_Trie_Get t0 p1 with
   | none => none
   | some (c10a, c10b) => 
     (bif c10b then
       ((match F32_trie_Trie_cut 100 (⟨t0.l, t0.free, t0.root, IntKind.i64.wrap (t0.n - 1)⟩ : TTrie) t0.root p1 with
        | none => none
        | some (c29a, c29b) => some (true, (⟨c29b.l, c29b.free, c29a, c29b.n⟩ : TTrie))))
     else
       some (false, t0))))

def F17_crossroadsref06_Drop_l1 (p1 : TPrefix) : (out6 : List TEntry) → List TEntry → Option (List TEntry)
  | out6, [] => some out6
  | out6, x7 :: l7 => (bif decide (x7.P.A = p1.A) && (decide (x7.P.N = p1.N) && true) then
        F17_crossroadsref06_Drop_l1 p1 out6 l7
      else
        (bif decide (out6.length < 1099511627776) then
          F17_crossroadsref06_Drop_l1 p1 (out6 ++ ([x7] : List TEntry)) l7
        else none))
theorem F17_crossroadsref06_Drop_l1_e : True := by
  have := @F17_crossroadsref06_Drop_l1.eq_1
  trivial
/-- crossroads/crossroadsref06.Drop -/
def F17_crossroadsref06_Drop (l0 : List TEntry) (p1 : TPrefix) : Option ((List TEntry) × Bool) :=
  (match F17_crossroadsref06_Drop_l1 p1 ([] : List TEntry) l0 with
  | none => none
  | some out6 => some (out6, decide ((out6.length : Int) < (l0.length : Int))))

/-- crossroads/crossroadsref03.Bit -/
def F38_crossroadsref03_Bit (a0 : Int) (i1 : Int) : Int :=
  (bif decide (i1 < 0) then
    0
  else
    (bif decide (31 < i1) then
      0
    else
      IntKind.i64.wrap (bit_and .u32 (shr_ .u32 a0 (IntKind.u64.wrap (IntKind.i64.wrap (31 - i1)))) 1)))

def F28_crossroadsref03_May_l1 (p0 : TPrefix) (fuel3 : Nat) (i3 : Int) : Except Bool Unit :=
  bif decide (i3 < 32) then
    match fuel3 with
    | 0 => .ok ()
    | fuel3 + 1 => (let c21 := F38_crossroadsref03_Bit p0.A i3
         (bif decide (c21 = 1) then .error (false) else F28_crossroadsref03_May_l1 p0 fuel3 (IntKind.i64.wrap (i3 + 1))))
  else .ok ()
/-- crossroads/crossroadsref03.May -/
def F28_crossroadsref03_May (p0 : TPrefix) : Bool :=
  (bif decide (p0.N < 0) then
    false
  else
    (bif decide (32 < p0.N) then
      false
    else
      (match F28_crossroadsref03_May_l1 p0 (fuelUp p0.N 32) p0.N with
      | .error r => r
      | .ok _ => true)))

/-- crossroads/crossroadsref03.Less -/
def F29_crossroadsref03_Less (p0 : TPrefix) (q1 : TPrefix) : Bool :=
  ((decide (p0.A < q1.A)) || ((decide (p0.A = q1.A)) && (decide (p0.N < q1.N))))

def F18_crossroadsref06_Set_l1 (p1 : TPrefix) (v2 : Int) : (put12 : Bool) → (out11 : List TEntry) → List TEntry → Option (Bool × (List TEntry))
  | put12, out11, [] => some (put12, out11)
  | put12, out11, x13 :: l13 => (bif put12 then
        (bif decide (out11.length < 1099511627776) then
          F18_crossroadsref06_Set_l1 p1 v2 true (out11 ++ ([x13] : List TEntry)) l13
        else none)
      else
        (let c51 := F29_crossroadsref03_Less p1 x13.P
         (bif c51 then
           (bif decide (out11.length < 1099511627776) then
             (bif decide ((out11 ++ ([(⟨p1, v2⟩ : TEntry)] : List TEntry)).length < 1099511627776) then
               F18_crossroadsref06_Set_l1 p1 v2 true ((out11 ++ ([(⟨p1, v2⟩ : TEntry)] : List TEntry)) ++ ([x13] : List TEntry)) l13
             else none)
           else none)
         else
           (bif decide (out11.length < 1099511627776) then
             F18_crossroadsref06_Set_l1 p1 v2 false (out11 ++ ([x13] : List TEntry)) l13
           else none))))
theorem F18_crossroadsref06_Set_l1_e : True := by
  have := @F18_crossroadsref06_Set_l1.eq_1
  trivial
/-- crossroads/crossroadsref06.Set -/
def F18_crossroadsref06_Set (l0 : List TEntry) (p1 : TPrefix) (v2 : Int) : Option ((List TEntry) × Int) :=
  (let c15 := F28_crossroadsref03_May p1
   (bif c15 then
     ((match F17_crossroadsref06_Drop l0 p1 with
      | none => none
      | some (c21a, c21b) => 
        (bif c21b then
          (match F18_crossroadsref06_Set_l1 p1 v2 false ([] : List TEntry) c21a with
          | none => none
          | some (put12, out11) => 
            (bif put12 then
              some (out11, 0)
            else
              (bif decide (out11.length < 1099511627776) then
                some ((out11 ++ ([(⟨p1, v2⟩ : TEntry)] : List TEntry)), 0)
              else none)))
        else
          (bif decide (5000 ≤ (l0.length : Int)) then
            some (l0, 8)
          else
            (match F18_crossroadsref06_Set_l1 p1 v2 false ([] : List TEntry) c21a with
            | none => none
            | some (put12, out11) => 
              (bif put12 then
                some (out11, 0)
              else
                (bif decide (out11.length < 1099511627776) then
                  some ((out11 ++ ([(⟨p1, v2⟩ : TEntry)] : List TEntry)), 0)
                else none)))))))
   else
     some (l0, 1)))

def F27_crossroadsref03_Has_l1 (p0 : TPrefix) (a1 : Int) (fuel5 : Nat) (i5 : Int) : Except Bool Unit :=
  bif decide (i5 < p0.N) then
    match fuel5 with
    | 0 => .ok ()
    | fuel5 + 1 => (let c18 := F38_crossroadsref03_Bit p0.A i5
         (let c21 := F38_crossroadsref03_Bit a1 i5
          (bif decide (c18 = c21) then F27_crossroadsref03_Has_l1 p0 a1 fuel5 (IntKind.i64.wrap (i5 + 1)) else .error (false))))
  else .ok ()
/-- crossroads/crossroadsref03.Has -/
def F27_crossroadsref03_Has (p0 : TPrefix) (a1 : Int) : Bool :=
  (let c7 := F28_crossroadsref03_May p0
   (c7 && (match F27_crossroadsref03_Has_l1 p0 a1 (fuelUp 0 p0.N) 0 with
   | .error r => r
   | .ok _ => true)))

def F19_crossroadsref06_Find_l1 (a1 : Int) : (is7 : Bool) → (best6 : TEntry) → List TEntry → Bool × TEntry
  | is7, best6, [] => (is7, best6)
  | is7, best6, x8 :: l8 => (let c22 := F27_crossroadsref03_Has x8.P a1
       (bif c22 then
         (bif is7 then
           (bif decide (best6.P.N < x8.P.N) then F19_crossroadsref06_Find_l1 a1 true x8 l8 else F19_crossroadsref06_Find_l1 a1 true best6 l8)
         else
           F19_crossroadsref06_Find_l1 a1 true x8 l8)
       else
         F19_crossroadsref06_Find_l1 a1 is7 best6 l8))
/-- crossroads/crossroadsref06.Find -/
def F19_crossroadsref06_Find (l0 : List TEntry) (a1 : Int) : TEntry × Bool :=
  (match F19_crossroadsref06_Find_l1 a1 false (⟨(⟨0, 0⟩ : TPrefix), 0⟩ : TEntry) l0 with
  | (is7, best6) => (best6, is7))

/-- crossroads/crossroadsref03.Covers -/
def F35_crossroadsref03_Covers (p0 : TPrefix) (q1 : TPrefix) : Bool :=
  (let c6 := F28_crossroadsref03_May p0
   (c6 && (let c9 := F28_crossroadsref03_May q1
    (c9 && ((decide (p0.N ≤ q1.N)) && (F27_crossroadsref03_Has p0 q1.A))))))

def F21_crossroadsref06_Below_l1 (p1 : TPrefix) : (out5 : List TEntry) → List TEntry → Option (List TEntry)
  | out5, [] => some out5
  | out5, x6 :: l6 => (let c20 := F35_crossroadsref03_Covers p1 x6.P
       (bif c20 then
         (bif decide (out5.length < 1099511627776) then
           F21_crossroadsref06_Below_l1 p1 (out5 ++ ([x6] : List TEntry)) l6
         else none)
       else
         F21_crossroadsref06_Below_l1 p1 out5 l6))
theorem F21_crossroadsref06_Below_l1_e : True := by
  have := @F21_crossroadsref06_Below_l1.eq_1
  trivial
/-- crossroads/crossroadsref06.Below -/
def F21_crossroadsref06_Below (l0 : List TEntry) (p1 : TPrefix) : Option (List TEntry) :=
  (match F21_crossroadsref06_Below_l1 p1 ([] : List TEntry) l0 with
  | none => none
  | some out5 => some out5)

def F23_crossroadsref06_Above_l1 (p1 : TPrefix) (n6 : Int) : (out5x : List TEntry) → List TEntry → Option (List TEntry)
  | out5x, [] => some out5x
  | out5x, x7 :: l7 => (bif decide (x7.P.N = n6) then
        (let c34 := F35_crossroadsref03_Covers x7.P p1
         (bif c34 then
           (bif decide (out5x.length < 1099511627776) then
             F23_crossroadsref06_Above_l1 p1 n6 (out5x ++ ([x7] : List TEntry)) l7
           else none)
         else
           F23_crossroadsref06_Above_l1 p1 n6 out5x l7))
      else
        F23_crossroadsref06_Above_l1 p1 n6 out5x l7)
theorem F23_crossroadsref06_Above_l1_e : True := by
  have := @F23_crossroadsref06_Above_l1.eq_1
  trivial
def F23_crossroadsref06_Above_l2 (l0 : List TEntry) (p1 : TPrefix) (fuel0 : Nat) (n6 : Int) (out5 : List TEntry) : Option (Int × (List TEntry)) :=
  match fuel0 with
  | 0 => none
  | fuel0 + 1 => (bif decide (n6 ≤ 32) then
        (match F23_crossroadsref06_Above_l1 p1 n6 out5 l0 with
        | none => none
        | some out5x => F23_crossroadsref06_Above_l2 l0 p1 fuel0 (IntKind.i64.wrap (n6 + 1)) out5x)
      else
        some (n6, out5))
/-- crossroads/crossroadsref06.Above -/
def F23_crossroadsref06_Above (l0 : List TEntry) (p1 : TPrefix) : Option (List TEntry) :=
  (match F23_crossroadsref06_Above_l2 l0 p1 ((33 - (0 : Int)).toNat + 1) 0 ([] : List TEntry) with
  | none => none
  | some (n6, out5) => some out5)

def F4_crossroadslaw06_TriePlays_l1  : (m6 : List TEntry) → (t_2_5 : Int) → (t_3_5 : Int) → (row2 : List TNode) → (row3 : List Int) → (i7 : Nat) → List TAct → Option (Except Bool ((List TEntry) × Int × Int × (List TNode) × (List Int)))
  | m6, t_2_5, t_3_5, row2, row3, i7, [] => some (.ok (m6, t_2_5, t_3_5, row2, row3))
  | m6, t_2_5, t_3_5, row2, row3, i7, x7 :: l7 => (bif decide ((i7 : Int) < 150) then
        (bif x7.Drop then
          ((match F16_trie_Trie_Drop (⟨row2, row3, t_2_5, t_3_5⟩ : TTrie) x7.P with
           | none => none
           | some (c42a, c42b) => 
             ((match F17_crossroadsref06_Drop m6 x7.P with
              | none => none
              | some (c47a, c47b) => 
                (bif c42a == c47b then
                  ((match F11_trie_Trie_Find c42b x7.A with
                   | none => none
                   | some (c77a, c77b) => 
                     (match F19_crossroadsref06_Find c47a x7.A with
                      | (c84a, c84b) => (bif decide (c77a.P.A = c84a.P.A) && (decide (c77a.P.N = c84a.P.N) && (decide (c77a.V = c84a.V) && true)) then
                          (bif c77b == c84b then
                            (let c97 := F15_trie_Trie_Len c42b
                             (bif decide (c97 = (c47a.length : Int)) then
                               F4_crossroadslaw06_TriePlays_l1 c47a c42b.root c42b.n c42b.l c42b.free (i7 + 1) l7
                             else
                               some (.error (false))))
                          else
                            some (.error (false)))
                        else
                          some (.error (false))))))
                else
                  some (.error (false)))))))
        else
          ((match F10_trie_Trie_Set (⟨row2, row3, t_2_5, t_3_5⟩ : TTrie) x7.P x7.V with
           | none => none
           | some (c59a, c59b) => 
             ((match F18_crossroadsref06_Set m6 x7.P x7.V with
              | none => none
              | some (c66a, c66b) => 
                (bif decide (c59a = c66b) then
                  ((match F11_trie_Trie_Find c59b x7.A with
                   | none => none
                   | some (c77a, c77b) => 
                     (match F19_crossroadsref06_Find c66a x7.A with
                      | (c84a, c84b) => (bif decide (c77a.P.A = c84a.P.A) && (decide (c77a.P.N = c84a.P.N) && (decide (c77a.V = c84a.V) && true)) then
                          (bif c77b == c84b then
                            (let c97 := F15_trie_Trie_Len c59b
                             (bif decide (c97 = (c66a.length : Int)) then
                               F4_crossroadslaw06_TriePlays_l1 c66a c59b.root c59b.n c59b.l c59b.free (i7 + 1) l7
                             else
                               some (.error (false))))
                          else
                            some (.error (false)))
                        else
                          some (.error (false))))))
                else
                  some (.error (false))))))))
      else
        some (.ok (m6, t_2_5, t_3_5, row2, row3)))
theorem F4_crossroadslaw06_TriePlays_l1_e : True := by
  have := @F4_crossroadslaw06_TriePlays_l1.eq_1
  trivial
/-- crossroads/crossroadslaw06.TriePlays -/
def F4_crossroadslaw06_TriePlays (script0 : List TAct) (q1 : TPrefix) : Option Bool :=
  (let c19 := F9_trie_New
   (match F4_crossroadslaw06_TriePlays_l1 ([] : List TEntry) c19.root c19.n c19.l c19.free 0 script0 with
   | none => none
   | some (.error r) => some r
   | some (.ok (m6, t_2_5, t_3_5, row2, row3)) => 
     (let c102 := F12_crossroadslaw06_alive
      (bif c102 then
        ((match F14_trie_Trie_Walk (⟨row2, row3, t_2_5, t_3_5⟩ : TTrie) with
         | none => none
         | some c105 => 
           (let c107 := F13_crossroadsref06_Same c105 m6
            (bif c107 then
              ((match F20_trie_Trie_Below (⟨row2, row3, t_2_5, t_3_5⟩ : TTrie) q1 with
               | none => none
               | some c112 => 
                 ((match F21_crossroadsref06_Below m6 q1 with
                  | none => none
                  | some c115 => 
                    (let c116 := F13_crossroadsref06_Same c112 c115
                     (bif c116 then
                       ((match F22_trie_Trie_Above (⟨row2, row3, t_2_5, t_3_5⟩ : TTrie) q1 with
                        | none => none
                        | some c121 => 
                          ((match F23_crossroadsref06_Above m6 q1 with
                           | none => none
                           | some c124 => 
                             (let c125 := F13_crossroadsref06_Same c121 c124
                              some c125)))))
                     else
                       some false))))))
            else
              some false))))
      else
        some false))))

def F24_crossroadslaw06_laid_l1  : (m5 : List TEntry) → (t_2_4 : Int) → (t_3_4 : Int) → (row1 : List TNode) → (row2 : List Int) → (i6 : Nat) → List TAct → Option ((List TEntry) × Int × Int × (List TNode) × (List Int))
  | m5, t_2_4, t_3_4, row1, row2, i6, [] => some (m5, t_2_4, t_3_4, row1, row2)
  | m5, t_2_4, t_3_4, row1, row2, i6, x6 :: l6 => (bif decide ((i6 : Int) < 150) then
        (bif x6.Drop then
          ((match F16_trie_Trie_Drop (⟨row1, row2, t_2_4, t_3_4⟩ : TTrie) x6.P with
           | none => none
           | some (c38a, c38b) => 
             ((match F17_crossroadsref06_Drop m5 x6.P with
              | none => none
              | some (c46a, c46b) => F24_crossroadslaw06_laid_l1 c46a c38b.root c38b.n c38b.l c38b.free (i6 + 1) l6))))
        else
          ((match F10_trie_Trie_Set (⟨row1, row2, t_2_4, t_3_4⟩ : TTrie) x6.P x6.V with
           | none => none
           | some (c61a, c61b) => 
             ((match F18_crossroadsref06_Set m5 x6.P x6.V with
              | none => none
              | some (c74a, c74b) => F24_crossroadslaw06_laid_l1 c74a c61b.root c61b.n c61b.l c61b.free (i6 + 1) l6)))))
      else
        some (m5, t_2_4, t_3_4, row1, row2))
theorem F24_crossroadslaw06_laid_l1_e : True := by
  have := @F24_crossroadslaw06_laid_l1.eq_1
  trivial
/-- crossroads/crossroadslaw06.laid -/
def F24_crossroadslaw06_laid (script0 : List TAct) : Option (TTrie × (List TEntry)) :=
  (let c11 := F9_trie_New
   (match F24_crossroadslaw06_laid_l1 ([] : List TEntry) c11.root c11.n c11.l c11.free 0 script0 with
   | none => none
   | some (m5, t_2_4, t_3_4, row1, row2) => some ((⟨row1, row2, t_2_4, t_3_4⟩ : TTrie), m5)))

def F26_crossroadsref06_Get_l1 (p1 : TPrefix) : List TEntry → Except (Int × Bool) Unit
  | [] => .ok ()
  | x6 :: l6 => (bif (decide (x6.P.A = p1.A) && (decide (x6.P.N = p1.N) && true)) then .error ((x6.V, true)) else F26_crossroadsref06_Get_l1 p1 l6)
/-- crossroads/crossroadsref06.Get -/
def F26_crossroadsref06_Get (l0 : List TEntry) (p1 : TPrefix) : Int × Bool :=
  (match F26_crossroadsref06_Get_l1 p1 l0 with
  | .error r => r
  | .ok _ => (0, false))

/-- crossroads/crossroadslaw06.TrieGets -/
def F5_crossroadslaw06_TrieGets (script0 : List TAct) (q1 : TPrefix) : Option Bool :=
  ((match F24_crossroadslaw06_laid script0 with
   | none => none
   | some (c13a, c13b) => 
     ((match F25_trie_Trie_Get c13a q1 with
      | none => none
      | some (c21a, c21b) => 
        (match F26_crossroadsref06_Get c13b q1 with
         | (c27a, c27b) => (let c30 := F12_crossroadslaw06_alive
            (bif c30 then
              (bif decide (c21a = c27a) then
                (bif (c21b == c27b) then
                  ((match F14_trie_Trie_Walk c13a with
                   | none => none
                   | some c43 => 
                     (let c45 := F13_crossroadsref06_Same c43 c13b
                      some c45)))
                else
                  some false)
              else
                some false)
            else
              some false)))))))

def F6_crossroadslaw06_TrieLongest_l1 (a1 : Int) (c53a : TEntry) : (ok8 : Bool) → (there10 : Bool) → List TEntry → Option (Except Bool (Bool × Bool))
  | ok8, there10, [] => some (.ok (ok8, there10))
  | ok8, there10, x11 :: l11 => (bif there10 then
        (let c79 := F27_crossroadsref03_Has x11.P a1
         (bif c79 then
           (bif ok8 then
             (bif decide (c53a.P.N < x11.P.N) then some (.error (false)) else F6_crossroadslaw06_TrieLongest_l1 a1 c53a true true l11)
           else
             some (.error (false)))
         else
           F6_crossroadslaw06_TrieLongest_l1 a1 c53a ok8 true l11))
      else
        (let c79 := F27_crossroadsref03_Has x11.P a1
         (bif c79 then
           (bif ok8 then
             (bif decide (c53a.P.N < x11.P.N) then
               some (.error (false))
             else
               F6_crossroadslaw06_TrieLongest_l1 a1 c53a true (decide (x11.P.A = c53a.P.A) && (decide (x11.P.N = c53a.P.N) && (decide (x11.V = c53a.V) && true))) l11)
           else
             some (.error (false)))
         else
           F6_crossroadslaw06_TrieLongest_l1 a1 c53a ok8 (decide (x11.P.A = c53a.P.A) && (decide (x11.P.N = c53a.P.N) && (decide (x11.V = c53a.V) && true))) l11)))
theorem F6_crossroadslaw06_TrieLongest_l1_e : True := by
  have := @F6_crossroadslaw06_TrieLongest_l1.eq_1
  trivial
def F6_crossroadslaw06_TrieLongest_l2  : (t_2_5 : Int) → (t_3_5 : Int) → (row1 : List TNode) → (row2 : List Int) → (i6 : Nat) → List TAct → Option (Int × Int × (List TNode) × (List Int))
  | t_2_5, t_3_5, row1, row2, i6, [] => some (t_2_5, t_3_5, row1, row2)
  | t_2_5, t_3_5, row1, row2, i6, x6 :: l6 => (bif decide ((i6 : Int) < 150) then
        (bif x6.Drop then
          ((match F16_trie_Trie_Drop (⟨row1, row2, t_2_5, t_3_5⟩ : TTrie) x6.P with
           | none => none
           | some (c37a, c37b) => F6_crossroadslaw06_TrieLongest_l2 c37b.root c37b.n c37b.l c37b.free (i6 + 1) l6))
        else
          ((match F10_trie_Trie_Set (⟨row1, row2, t_2_5, t_3_5⟩ : TTrie) x6.P x6.V with
           | none => none
           | some (c49a, c49b) => F6_crossroadslaw06_TrieLongest_l2 c49b.root c49b.n c49b.l c49b.free (i6 + 1) l6)))
      else
        some (t_2_5, t_3_5, row1, row2))
theorem F6_crossroadslaw06_TrieLongest_l2_e : True := by
  have := @F6_crossroadslaw06_TrieLongest_l2.eq_1
  trivial
/-- crossroads/crossroadslaw06.TrieLongest -/
def F6_crossroadslaw06_TrieLongest (script0 : List TAct) (a1 : Int) : Option Bool :=
  (let c13 := F9_trie_New
   (match F6_crossroadslaw06_TrieLongest_l2 c13.root c13.n c13.l c13.free 0 script0 with
   | none => none
   | some (t_2_5, t_3_5, row1, row2) => 
     ((match F11_trie_Trie_Find (⟨row1, row2, t_2_5, t_3_5⟩ : TTrie) a1 with
      | none => none
      | some (c53a, c53b) => 
        ((match F14_trie_Trie_Walk (⟨row1, row2, t_2_5, t_3_5⟩ : TTrie) with
         | none => none
         | some c57 => 
           (match F6_crossroadslaw06_TrieLongest_l1 a1 c53a c53b false c57 with
           | none => none
           | some (.error r) => some r
           | some (.ok (ok8, there10)) => 
             ((match F22_trie_Trie_Above (⟨row1, row2, t_2_5, t_3_5⟩ : TTrie) (⟨a1, 32⟩ : TPrefix) with
              | none => none
              | some c99 => 
                (bif ok8 == (decide (0 < (c99.length : Int))) then
                  (bif ok8 then
                    (match getI c99 (IntKind.i64.wrap ((c99.length : Int) - 1)) with
                    | none => none
                    | some x1037 => 
                      (bif decide (x1037.P.A = c53a.P.A) && (decide (x1037.P.N = c53a.P.N) && (decide (x1037.V = c53a.V) && true)) then
                        (bif there10 then
                          (let c124 := F27_crossroadsref03_Has c53a.P a1
                           (bif c124 then
                             (let c129 := F12_crossroadslaw06_alive
                              (bif c129 then some true else some false))
                           else
                             some false))
                        else
                          some false)
                      else
                        some false))
                  else
                    (let c129 := F12_crossroadslaw06_alive
                     (bif c129 then
                       some (decide (c53a.P.A = 0) && (decide (c53a.P.N = 0) && (decide (c53a.V = 0) && true)))
                     else
                       some false)))
                else
                  some false))))))))))

def F7_crossroadslaw06_TrieOrder_l1 (c66 : List TEntry) (fuel16 : Nat) (i16 : Int) : Option (Except Bool Unit) :=
  bif decide (i16 < (c66.length : Int)) then
    match fuel16 with
    | 0 => some (.ok ())
    | fuel16 + 1 => (match getI c66 (IntKind.i64.wrap (i16 - 1)) with
        | none => none
        | some x921 => 
          (match getI c66 i16 with
          | none => none
          | some x922 => 
            (let c103 := F29_crossroadsref03_Less x921.P x922.P
             (bif c103 then F7_crossroadslaw06_TrieOrder_l1 c66 fuel16 (IntKind.i64.wrap (i16 + 1)) else some (.error (false))))))
  else some (.ok ())
def F7_crossroadslaw06_TrieOrder_l2  : (t_2_7 : Int) → (t_3_7 : Int) → (row2 : List TNode) → (row3 : List Int) → (i8 : Nat) → List TAct → Option (Int × Int × (List TNode) × (List Int))
  | t_2_7, t_3_7, row2, row3, i8, [] => some (t_2_7, t_3_7, row2, row3)
  | t_2_7, t_3_7, row2, row3, i8, x8 :: l8 => (bif decide ((i8 : Int) < 150) then
        ((match F10_trie_Trie_Set (⟨row2, row3, t_2_7, t_3_7⟩ : TTrie) x8.P x8.V with
         | none => none
         | some (c46a, c46b) => F7_crossroadslaw06_TrieOrder_l2 c46b.root c46b.n c46b.l c46b.free (i8 + 1) l8))
      else
        some (t_2_7, t_3_7, row2, row3))
theorem F7_crossroadslaw06_TrieOrder_l2_e : True := by
  have := @F7_crossroadslaw06_TrieOrder_l2.eq_1
  trivial
/-- crossroads/crossroadslaw06.TrieOrder -/
def F7_crossroadslaw06_TrieOrder (script0 : List TAct) (p1 : TPrefix) (v2 : Int) : Option Bool :=
  (let c22 := F9_trie_New
   (match F7_crossroadslaw06_TrieOrder_l2 c22.root c22.n c22.l c22.free 0 script0 with
   | none => none
   | some (t_2_7, t_3_7, row2, row3) => 
     ((match F14_trie_Trie_Walk (⟨row2, row3, t_2_7, t_3_7⟩ : TTrie) with
      | none => none
      | some c48 => 
        ((match F25_trie_Trie_Get (⟨row2, row3, t_2_7, t_3_7⟩ : TTrie) p1 with
         | none => none
         | some (c52a, c52b) => 
           ((match F10_trie_Trie_Set (⟨row2, row3, t_2_7, t_3_7⟩ : TTrie) p1 v2 with
            | none => none
            | some (c58a, c58b) => 
              ((match F25_trie_Trie_Get c58b p1 with
               | none => none
               | some (c62a, c62b) => 
                 ((match F14_trie_Trie_Walk c58b with
                  | none => none
                  | some c66 => 
                    (bif c62b == (decide (c58a = 0)) then
                      (bif c62b then
                        (bif decide (c62a = v2) then
                          (let c83 := F28_crossroadsref03_May p1
                           (bif (decide (c58a = 0)) == c83 then
                             (match F7_crossroadslaw06_TrieOrder_l1 c66 (fuelUp 1 (c66.length : Int)) 1 with
                             | none => none
                             | some (.error r) => some r
                             | some (.ok _) => 
                               ((match F17_crossroadsref06_Drop c48 p1 with
                                | none => none
                                | some (c108a, c108b) => 
                                  ((match F17_crossroadsref06_Drop c66 p1 with
                                   | none => none
                                   | some (c114a, c114b) => 
                                     ((match F16_trie_Trie_Drop c58b p1 with
                                      | none => none
                                      | some (c119a, c119b) => 
                                        (let c120 := F12_crossroadslaw06_alive
                                         (bif c120 then
                                           (let c124 := F13_crossroadsref06_Same c108a c114a
                                            (bif c124 then
                                              ((match F14_trie_Trie_Walk c119b with
                                               | none => none
                                               | some c128 => 
                                                 (let c130 := F13_crossroadsref06_Same c128 c108a
                                                  (bif c130 then (bif (c119a == true) then some true else some false) else some false))))
                                            else
                                              some false))
                                         else
                                           some false)))))))))
                           else
                             some false))
                        else
                          some false)
                      else
                        (let c83 := F28_crossroadsref03_May p1
                         (bif (decide (c58a = 0)) == c83 then
                           (match F7_crossroadslaw06_TrieOrder_l1 c66 (fuelUp 1 (c66.length : Int)) 1 with
                           | none => none
                           | some (.error r) => some r
                           | some (.ok _) => 
                             ((match F17_crossroadsref06_Drop c48 p1 with
                              | none => none
                              | some (c108a, c108b) => 
                                ((match F17_crossroadsref06_Drop c66 p1 with
                                 | none => none
                                 | some (c114a, c114b) => 
                                   ((match F16_trie_Trie_Drop c58b p1 with
                                    | none => none
                                    | some (c119a, c119b) => 
                                      (let c120 := F12_crossroadslaw06_alive
                                       (bif c120 then
                                         (let c124 := F13_crossroadsref06_Same c108a c114a
                                          (bif c124 then
                                            ((match F14_trie_Trie_Walk c119b with
                                             | none => none
                                             | some c128 => 
                                               (let c130 := F13_crossroadsref06_Same c128 c108a
                                                (bif c130 then
                                                  (bif (c119a == false) then (bif c52b then some false else some true) else some false)
                                                else
                                                  some false))))
                                          else
                                            some false))
                                       else
                                         some false)))))))))
                         else
                           some false)))
                    else
                      some false)))))))))))))

/-- crossroads/crossroadslaw06.TrieNil (run) -/
def F8_crossroadslaw06_TrieNil (p0 : TPrefix) (a1 : Int) (v2 : Int) : Bool := true

end Go.Proofs.Ytakallenldpkiaa.Abs
