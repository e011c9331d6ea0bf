/- The abstract machine's operations: what each does to location-free values (core), and how the model's operations are turned into them (trans). Generic over any program. -/
import Derived.Test.YtakallenldpkiaaGreatDoorA1
set_option linter.unusedVariables false
namespace Go.Proofs.YtakallenldpkiaaGreatDoor.Abs
open Go
inductive LK where
 | int (k:IntKind) | bool | str
 deriving DecidableEq
inductive EK where
 | scal
 | bool | str
 | flat (ks:List LK)
 | ptr
 | sl
inductive QOp where
 | mk | look (z:PVal) (c:Bool) | del | len
 | ent (z:PVal)
 | put
inductive AOp where
 | mov
 | pick
 | alloc (zs:List PVal)
 | box
 | build (zs:List PVal) (parts:List (Nat × Nat))
 | bslice (sz:Nat) (ty:TypeId)
 | load (k:Option Nat)
 | store (n:Nat)
 | nilchk
 | bin (op:BinOp) (ek:EK)
 | unNot | unNeg | unInv
 | conv (k:IntKind)
 | bstr
 | fldA (off:Nat)
 | fld (off:Nat) (k:Option Nat)
 | idxA (sz:Nat)
 | idxAA (len sz:Nat)
 | idxV (len sz:Nat) (k:Option Nat)
 | idxS
 | ext (j:Nat)
 | lenS | lenL | lenM
 | mkfn (f:FuncId) (nf:Nat)
 | mkif (t:TypeId)
 | append (sz:Nat) (ty:TypeId) (bytes:Nat)
 | mkmap
 | lookup (z:PVal) (c:Bool) (lk:LK)
 | mapset (lk:LK)
 | lookupF (z:PVal) (c:Bool) (ks:List LK)
 | mapsetF (ks:List LK)
 | mapdel (lk:LK)
 | mq (q:QOp)
 | slice (sz:Nat) (lo hi:Bool)
 | sliceS (lo hi:Bool)
 | minmax (isMax:Bool)
 | capL
 | copy (sz:Nat)
 | appendZ (sz:Nat) (ty:TypeId) (bytes:Nat) (zs:List PVal)
 | clear (sz:Nat) (zs:List PVal)
 | sliceZ (sz:Nat) (ty:TypeId)
 | slice3 (sz:Nat)
 | mkslice (sz:Nat) (ty:TypeId) (bytes:Nat) (zs:List PVal)
 | call (f:FuncId)
 | callv
 | bad
inductive AX where
 | t (n:Nat)
 | c (p:PVal)
 | f (g:FuncId)
 | g
structure AO where
 d:Option Nat
 g:Option (Nat × Bool)
 op:AOp
 xs:List AX
inductive AC where
 | skip
 | reg (draw:List (List Nat)) (ops:List AO)
 | seq (a b:AC)
 | cond (c:AX) (a b:AC)
 | block (id:Nat) (a:AC)
 | loop (a:AC)
 | exit (id:Nat)
 | ret
 | bad
def PVal.cells:PVal → Option (List PVal)
 | .agg cs=>some cs
 | .undef | .hole | .tup _=>none
 | p=>some [p]
def splice (cs:List PVal) (off:Nat) (vs:List PVal):List PVal :=
 match vs with
 | [v]=>cs.set off v
 | _=>cs.take off ++ vs ++ cs.drop (off + vs.length)
def peek (k:Option Nat) (cs:List PVal) (off:Nat):Option PVal :=
 match k with
 | none=>cs[off]?
 | some n=>if off + n ≤ cs.length then some (.agg ((cs.drop off).take n)) else none
def fillP:List (Nat × Nat) → List PVal → List PVal → Option (List PVal)
 | [],[],cs=>some cs
 | (off,size) :: r,p :: ps,cs =>
  match p.cells with
  | some vs=>if vs.length = size ∧ off + size ≤ cs.length then fillP r ps (splice cs off vs) else none
  | none=>none
 | _,_,_=>none
def elemsOf (sz:Nat):List PVal → Option (List (List PVal))
 | []=>some []
 | p :: ps =>
  match p.cells,elemsOf sz ps with
  | some vs,some es=>if vs.length = sz ∧ p.closed = true then some (vs :: es) else none
  | _,_=>none
def cellsL (sz:Nat):List PVal → Option (List (List PVal))
 | []=>some []
 | p :: ps =>
  match p.cells,cellsL sz ps with
  | some vs,some es=>if vs.length = sz then some (vs :: es) else none
  | _,_=>none
def leafEq:PVal → PVal → Option Bool
 | .int k a,.int k' b=>if k = k' then some (decide (a = b)) else none
 | .bool a,.bool b=>some (a == b)
 | .str a,.str b=>some (a == b)
 | _,_=>none
def leafIs:LK → PVal → Bool
 | .int k,.int k' _=>k = k'
 | .bool,.bool _=>true
 | .str,.str _=>true
 | _,_=>false
def flatEq:List LK → List PVal → List PVal → Option Bool
 | [],[],[]=>some true
 | k :: ks,p :: ps,q :: qs =>
  if leafIs k p ∧ leafIs k q then
   match leafEq p q,flatEq ks ps qs with
   | some a,some b=>some (a && b)
   | _,_=>none
  else none
 | _,_,_=>none
def binInt (op:BinOp) (k:IntKind) (a b:Int):Option PVal :=
 match op with
 | .add=>some (.int k (k.wrap (a + b)))
 | .sub=>some (.int k (k.wrap (a - b)))
 | .mul=>some (.int k (k.wrap (a * b)))
 | .quo=>if b = 0 then none else some (.int k (k.wrap (a.tdiv b)))
 | .rem=>if b = 0 then none else some (.int k (a.tmod b))
 | .and=>some (.int k (k.wrap (BitVec.ofInt k.bits a &&& BitVec.ofInt k.bits b).toNat))
 | .or=>some (.int k (k.wrap (BitVec.ofInt k.bits a ||| BitVec.ofInt k.bits b).toNat))
 | .xor=>some (.int k (k.wrap (BitVec.ofInt k.bits a ^^^ BitVec.ofInt k.bits b).toNat))
 | .andNot=>some (.int k (k.wrap (BitVec.ofInt k.bits a &&& ~~~BitVec.ofInt k.bits b).toNat))
 | .eql=>some (.bool (decide (a = b)))
 | .neq=>some (.bool (!decide (a = b)))
 | .lss=>some (.bool (decide (a < b)))
 | .leq=>some (.bool (decide (a ≤ b)))
 | .gtr=>some (.bool (decide (b < a)))
 | .geq=>some (.bool (decide (b ≤ a)))
 | _=>none
def binV (op:BinOp) (ek:EK) (x y:PVal):Option PVal :=
 match op,x,y with
 | .shl,.int k a,.int _ b=>if b < 0 then none else some (.int k (k.wrap (a * 2 ^ min b.toNat k.bits)))
 | .shr,.int k a,.int _ b=>if b < 0 then none else some (.int k (a.fdiv (2 ^ min b.toNat k.bits)))
 | op,.int k a,.int k' b=>if k = k' then binInt op k a b else none
 | .eql,.bool a,.bool b=>match ek with | .bool=>some (.bool (a == b)) | _=>none
 | .neq,.bool a,.bool b=>match ek with | .bool=>some (.bool (!(a == b))) | _=>none
 | .eql,.str a,.str b=>some (.bool (a.toList == b.toList))
 | .neq,.str a,.str b=>some (.bool (!(a.toList == b.toList)))
 | .lss,.str a,.str b=>some (.bool (Op.bytesLess a.toList b.toList))
 | .leq,.str a,.str b=>some (.bool (Op.bytesLess a.toList b.toList || a.toList == b.toList))
 | .gtr,.str a,.str b=>some (.bool (!(Op.bytesLess a.toList b.toList || a.toList == b.toList)))
 | .geq,.str a,.str b=>some (.bool (!(Op.bytesLess a.toList b.toList)))
 | .add,.str a,.str b=>if a.size + b.size ≤ 9223372036854775807 then some (.str (a ++ b)) else none
 | .eql,.nilp,.nilp=>match ek with | .ptr=>some (.bool true) | _=>none
 | .neq,.nilp,.nilp=>match ek with | .ptr=>some (.bool false) | _=>none
 | .eql,.rptr _,.nilp=>match ek with | .ptr=>some (.bool false) | _=>none
 | .neq,.rptr _,.nilp=>match ek with | .ptr=>some (.bool true) | _=>none
 | .eql,.nils,.nils=>match ek with | .sl=>some (.bool true) | _=>none
 | .neq,.nils,.nils=>match ek with | .sl=>some (.bool false) | _=>none
 | .eql,.ro _ es,.nils=>match ek with | .sl=>some (if 0 < es.length then .bool false else .anyb) | _=>none
 | .neq,.ro _ es,.nils=>match ek with | .sl=>some (if 0 < es.length then .bool true else .anyb) | _=>none
 | .eql,.agg a,.agg b=>match ek with | .flat ks=>(flatEq ks a b).map .bool | _=>none
 | .neq,.agg a,.agg b=>match ek with | .flat ks=>(flatEq ks a b).map fun r=>.bool (!r) | _=>none
 | _,_,_=>none
def findP (lk:LK) (k:PVal):List (PVal × PVal) → Option (Option PVal)
 | []=>some none
 | (k',x) :: r=>if leafIs lk k' = true then match leafEq k k' with
   | some true=>some (some x)
   | some false=>findP lk k r
   | none=>none
  else none
def setP (lk:LK) (k x:PVal):List (PVal × PVal) → Option (List (PVal × PVal))
 | []=>some [(k,x)]
 | (k',y) :: r=>if leafIs lk k' = true then match leafEq k k' with
   | some true=>some ((k,x) :: r)
   | some false=>match setP lk k x r with
    | some l=>some ((k',y) :: l)
    | none=>none
   | none=>none
  else none
def findF (ks:List LK) (k:List PVal):List (PVal × PVal) → Option (Option PVal)
 | []=>some none
 | (.agg k',x) :: r=>match flatEq ks k k' with
  | some true=>some (some x)
  | some false=>findF ks k r
  | none=>none
 | _ :: _=>none
def setF (ks:List LK) (k:List PVal) (x:PVal):List (PVal × PVal) → Option (List (PVal × PVal))
 | []=>some [(.agg k,x)]
 | (.agg k',y) :: r=>match flatEq ks k k' with
  | some true=>some ((.agg k,x) :: r)
  | some false=>match setF ks k x r with
   | some l=>some ((.agg k',y) :: l)
   | none=>none
  | none=>none
 | _ :: _=>none
def delP (lk:LK) (k:PVal):List (PVal × PVal) → Option (List (PVal × PVal))
 | []=>some []
 | (k',y) :: r=>if leafIs lk k' = true then match leafEq k k' with
   | some true=>some r
   | some false=>match delP lk k r with
    | some l=>some ((k',y) :: l)
    | none=>none
   | none=>none
  else none
def findE (k:ByteArray):Nat → List (Nat × ByteArray × PVal) → Option (Nat × Nat × PVal)
 | _,[]=>none
 | i,(s,k',x) :: r=>bif k == k' then some (i,s,x) else findE k (i + 1) r
def delE (k:ByteArray):List (Nat × ByteArray × PVal) → List (Nat × ByteArray × PVal)
 | []=>[]
 | (s,k',x) :: r=>bif k == k' then r else (s,k',x) :: delE k r
def putE (s:Int) (x:PVal):List (Nat × ByteArray × PVal) → Option (List (Nat × ByteArray × PVal))
 | []=>none
 | (s',k,y) :: r=>bif decide ((s':Int) = s) then some ((s',k,x) :: r) else match putE s x r with
  | some l=>some ((s',k,y) :: l)
  | none=>none
structure R where
 v:PVal
 rh:List AId:=[]
 wh:List (AId × Option AObj):=[]
 nw:List AId:=[]
def bytesP:List (List PVal) → Option (List Int)
 | []=>some []
 | [.int .u8 n] :: r=>(bytesP r).map (n :: ·)
 | _=>none
def strNums (xs:List Int):ByteArray:=⟨(xs.map fun n=>UInt8.ofNat n.toNat).toArray⟩
def elems (h:AId → Option AObj):PVal → Option (Nat × List (List PVal) × List AId)
 | .ro sz es=>some (sz,es,[])
 | .own id sz lo n =>
  match h id with
  | some (.row sz' _ es)=>if sz' = sz ∧ lo + n ≤ es.length then some (sz,(es.drop lo).take n,[id]) else none
  | _=>none
 | _=>none
def PVal.isU:PVal → Bool
 | .undef=>true
 | _=>false
def knownL (es:List (List PVal)):Bool:=es.all fun e=>e.all fun p=>!p.isU
def elemsU (h:AId → Option AObj) (k:Nat):PVal → Option (Nat × List (List PVal) × List AId)
 | .ro sz es=>some (sz,es.take k,[])
 | .own id sz lo n =>
  match h id with
  | some (.row sz' _ es)=>if sz' = sz ∧ lo + n ≤ es.length then some (sz,((es.drop lo).take n).take k,[id]) else none
  | some (.full sz' _ es)=>if sz' = sz ∧ lo + n ≤ es.length ∧ knownL (es.take (lo + min k n)) = true then some (sz,((es.drop lo).take n).take k,[id]) else none
  | _=>none
 | _=>none
def lenP:PVal → Nat
 | .ro _ es=>es.length
 | .own _ _ _ n=>n
 | _=>0
def overE (es:List (List PVal)) (lo:Nat) (es2:List (List PVal)):List (List PVal):=es.take lo ++ es2 ++ es.drop (lo + es2.length)
def sbndC (lo hi:Bool) (len cap:Nat) (bs:List PVal):Option (Nat × Nat) :=
 match lo,hi,bs with
 | true,false,[.int _ l]=>if 0 ≤ l ∧ l ≤ len then some (l.toNat,len) else none
 | false,true,[.int _ u]=>if 0 ≤ u ∧ u ≤ cap then some (0,u.toNat) else none
 | true,true,[.int _ l,.int _ u]=>if 0 ≤ l ∧ l ≤ u ∧ u ≤ cap then some (l.toNat,u.toNat) else none
 | _,_,_=>none
def sbnd (lo hi:Bool) (len:Nat) (bs:List PVal):Option (Nat × Nat) :=
 match lo,hi,bs with
 | false,false,[]=>some (0,len)
 | true,false,[.int _ l]=>if 0 ≤ l ∧ l ≤ len then some (l.toNat,len) else none
 | false,true,[.int _ u]=>if 0 ≤ u ∧ u ≤ len then some (0,u.toNat) else none
 | true,true,[.int _ l,.int _ u]=>if 0 ≤ l ∧ l ≤ u ∧ u ≤ len then some (l.toNat,u.toNat) else none
 | _,_,_=>none
def coreBin (op:BinOp) (ek:EK) (x y:PVal) (h:AId → Option AObj):Option R :=
 match op,ek,x,y with
 | .eql,.ptr,.ptr id _,.nilp=>match h id with | some (.box _)=>some { v:=.bool false,rh:=[id] } | _=>none
 | .neq,.ptr,.ptr id _,.nilp=>match h id with | some (.box _)=>some { v:=.bool true,rh:=[id] } | _=>none
 | .eql,.sl,.own id _ _ n,.nils=>match h id with | some (.row _ _ _)=>if 0 < n then some { v:=.bool false,rh:=[id] } else none | _=>none
 | .neq,.sl,.own id _ _ n,.nils=>match h id with | some (.row _ _ _)=>if 0 < n then some { v:=.bool true,rh:=[id] } else none | _=>none
 | op,ek,x,y=>(binV op ek x y).map fun v=>{ v }
def coreAppF (nx sz ty bytes id sz1 lo n sz1' ty1:Nat) (es:List (List PVal)) (sz2:Nat) (es2:List (List PVal)) (rh2:List AId):Option R :=
 if sz2 = sz ∧ sz1 = sz ∧ sz1' = sz ∧ ty1 = ty ∧ lo = 0 ∧ n ≤ es.length then
  if n + es2.length ≤ es.length then some { v:=.own nx sz 0 (n + es2.length),rh:=id :: rh2,wh:=[(nx,some (.full sz ty (overE es n es2))),(id,none)],nw:=[nx] }
  else if (n + es2.length) * bytes ≤ 140737488355328 ∧ n + es2.length ≤ maxLen ∧ knownL (es.take n) = true then some { v:=.own nx sz 0 (n + es2.length),rh:=id :: rh2,wh:=[(nx,some (.row sz ty (es.take n ++ es2)))],nw:=[nx] }
  else none
 else none
def mm (isMax:Bool) (a b:Int):Int:=if isMax then (if a < b then b else a) else (if b < a then b else a)
def coreLF (z:PVal) (c:Bool) (ks:List LK) (ps:List PVal) (h:AId → Option AObj):Option R:=match ps with
 | [.mapr id,.agg k] =>
  match h id with
  | some (.mp kvs) =>
   if (flatEq ks k k).isSome = true then
    match findF ks k kvs with
    | some (some x)=>some { v:=if c then .tup [x,.bool true] else x,rh:=[id] }
    | some none=>some { v:=if c then .tup [z,.bool false] else z,rh:=[id] }
    | none=>none
   else none
  | _=>none
 | _=>none
def coreSF (ks:List LK) (ps:List PVal) (h:AId → Option AObj):Option R:=match ps with
 | [.mapr id,.agg k,x] =>
  match h id with
  | some (.mp kvs) =>
   if (flatEq ks k k).isSome = true ∧ x.closed = true then
    match setF ks k x kvs with
    | some l=>some { v:=.hole,rh:=[id],wh:=[(id,some (.mp l))] }
    | none=>none
   else none
  | _=>none
 | _=>none
def coreDel (lk:LK) (ps:List PVal) (h:AId → Option AObj):Option R:=match ps with
 | [.mapr id,k] =>
  match h id with
  | some (.mp kvs) =>
   if leafIs lk k = true then
    match delP lk k kvs with
    | some l=>some { v:=.hole,rh:=[id],wh:=[(id,some (.mp l))] }
    | none=>none
   else none
  | _=>none
 | _=>none
def coreQ (q:QOp) (ps:List PVal) (h:AId → Option AObj) (nx:AId):Option R:=match q,ps with
 | .mk,[]=>some { v:=.mapr nx,wh:=[(nx,some (.mq 0 []))],nw:=[nx] }
 | .look z c,[.mapr id,.str k]=>match h id with
  | some (.mq _ es)=>match findE k 0 es with
   | some (_,_,x)=>some { v:=if c then .tup [x,.bool true] else x,rh:=[id] }
   | none=>some { v:=if c then .tup [z,.bool false] else z,rh:=[id] }
  | _=>none
 | .len,[.mapr id]=>match h id with
  | some (.mq _ es)=>some { v:=.int .i64 es.length,rh:=[id] }
  | _=>none
 | .del,[.mapr id,.str k]=>match h id with
  | some (.mq c es)=>some { v:=.hole,rh:=[id],wh:=[(id,some (.mq c (delE k es)))] }
  | _=>none
 | .ent z,[.mapr id,.str k]=>match h id with
  | some (.mq c es)=>match findE k 0 es with
   | some (_,s,x)=>some { v:=.tup [x,.int .i64 s],rh:=[id],wh:=[(id,some (.mq c es))] }
   | none=>some { v:=.tup [z,.int .i64 c],rh:=[id],wh:=[(id,some (.mq (c + 1) (es ++ [(c,k,z)])))] }
  | _=>none
 | .put,[.mapr id,.int .i64 s,x]=>match h id with
  | some (.mq c es)=>if x.closed = true then match putE s x es with
   | some l=>some { v:=.hole,rh:=[id],wh:=[(id,some (.mq c l))] }
   | none=>none
   else none
  | _=>none
 | _,_=>none
def coreNil (x:PVal) (h:AId → Option AObj):Option R:=match x with
 | .ptr id off=>match h id with | some (.box _)=>some { v:=.ptr id off,rh:=[id] } | _=>none
 | .eptr id sz i o=>match h id with | some (.row sz' _ es)=>if sz' = sz ∧ i < es.length then some { v:=.eptr id sz i o,rh:=[id] } else none | _=>none
 | .rptr cs=>some { v:=.rptr cs }
 | .fn f a b=>some { v:=.fn f a b }
 | _=>none
def core (op:AOp) (xs:List PVal) (h:AId → Option AObj) (nx:AId):Option R :=
 match op,xs with
 | .mov,[x]=>some { v:=x }
 | .pick,[.bool c,a,b]=>some { v:=if c then a else b }
 | .alloc zs,[]=>some { v:=.ptr nx 0,wh:=[(nx,some (.box zs))],nw:=[nx] }
 | .box,[x] =>
  match x.cells with
  | some cs=>some { v:=.ptr nx 0,wh:=[(nx,some (.box cs))],nw:=[nx] }
  | none=>none
 | .build zs parts,ps=>(fillP parts ps zs).map fun cs=>{ v:=.agg cs }
 | .bslice sz ty,ps =>
  match elemsOf sz ps with
  | some es=>some { v:=.own nx sz 0 ps.length,wh:=[(nx,some (.row sz ty es))],nw:=[nx] }
  | none=>match cellsL sz ps with
   | some es=>some { v:=.own nx sz 0 ps.length,wh:=[(nx,some (.box es.flatten))],nw:=[nx] }
   | none=>none
 | .load k,[.ptr id off] =>
  match h id with
  | some (.box cs)=>(peek k cs off).map fun v=>{ v,rh:=[id] }
  | _=>none
 | .load k,[.eptr id sz i off] =>
  match h id with
  | some (.row sz' _ es)=>if sz' = sz ∧ i < es.length then (peek k (es.getD i []) off).map fun v=>{ v,rh:=[id] } else none
  | _=>none
 | .load k,[.rptr cs]=>(peek k cs 0).map fun v=>{ v }
 | .store n,[.ptr id off,v] =>
  match h id,v.cells with
  | some (.box cs),some vs=>if vs.length = n ∧ off + n ≤ cs.length then some { v:=.hole,rh:=[id],wh:=[(id,some (.box (splice cs off vs)))] } else none
  | _,_=>none
 | .store n,[.eptr id sz i off,v] =>
  match h id,v.cells with
  | some (.row sz' ty es),some vs =>
   if sz' = sz ∧ i < es.length ∧ vs.length = n ∧ off + n ≤ sz ∧ v.closed = true then
    some { v:=.hole,rh:=[id],wh:=[(id,some (.row sz ty (es.set i (splice (es.getD i []) off vs))))] } else none
  | _,_=>none
 | .nilchk,[x]=>coreNil x h
 | .bin op ek,[x,y]=>coreBin op ek x y h
 | .unNot,[.bool b]=>some { v:=.bool (!b) }
 | .unNot,[.anyb]=>some { v:=.anyb }
 | .unNeg,[.int k n]=>some { v:=.int k (k.wrap (-n)) }
 | .unInv,[.int k n]=>(binInt .xor k (if k.signed then -1 else k.max) n).map fun v=>{ v }
 | .conv k,[.int _ n]=>some { v:=.int k (k.wrap n) }
 | .bstr,[x] =>
  match elems h x with
  | some (sz,es,rh)=>match bytesP es with
   | some xs=>if sz = 1 then some { v:=.str (strNums xs),rh } else none
   | none=>none
  | none=>match x with
   | .nils=>some { v:=.str (strNums []) }
   | _=>none
 | .fldA off,[.ptr id o]=>match h id with | some (.box _)=>some { v:=.ptr id (o + off),rh:=[id] } | _=>none
 | .fldA off,[.eptr id sz i o]=>match h id with | some (.row sz' _ es)=>if sz' = sz ∧ i < es.length then some { v:=.eptr id sz i (o + off),rh:=[id] } else none | _=>none
 | .fldA off,[.rptr cs]=>some { v:=.rptr (cs.drop off) }
 | .fld off k,[.agg cs]=>(peek k cs off).map fun v=>{ v }
 | .idxA sz,[.ro sz' es,.int _ i]=>if sz' = sz ∧ 0 ≤ i ∧ i < es.length then some { v:=.rptr (es.getD i.toNat []) } else none
 | .idxA sz,[.own id sz' lo n,.int _ i] =>
  match h id with
  | some (.row sz'' _ es)=>if sz' = sz ∧ sz'' = sz ∧ lo + n ≤ es.length ∧ 0 ≤ i ∧ i < n then some { v:=.eptr id sz (lo + i.toNat) 0,rh:=[id] } else none
  | some (.box _)=>if sz' = sz ∧ 0 ≤ i ∧ i < n then some { v:=.ptr id ((lo + i.toNat) * sz),rh:=[id] } else none
  | _=>none
 | .idxAA len sz,[.ptr id off,.int _ i] =>
  match h id with
  | some (.box _)=>if 0 ≤ i ∧ i < len then some { v:=.ptr id (off + i.toNat * sz),rh:=[id] } else none
  | _=>none
 | .idxAA len sz,[.rptr cs,.int _ i]=>if 0 ≤ i ∧ i < len then some { v:=.rptr (cs.drop (i.toNat * sz)) } else none
 | .idxAA len sz,[.eptr id esz j off,.int _ i] =>
  match h id with
  | some (.row esz' _ es)=>if esz' = esz ∧ j < es.length ∧ 0 ≤ i ∧ i < len then some { v:=.eptr id esz j (off + i.toNat * sz),rh:=[id] } else none
  | _=>none
 | .idxV len sz k,[.agg cs,.int _ i]=>if 0 ≤ i ∧ i < len then (peek k cs (i.toNat * sz)).map fun v=>{ v } else none
 | .idxS,[.str s,.int _ i]=>if 0 ≤ i ∧ i < s.size then (s.data.toList[i.toNat]?).map fun b=>{ v:=.int .u8 b.toNat } else none
 | .ext j,[.tup cs]=>(cs[j]?).map fun v=>{ v }
 | .lenS,[.str s]=>some { v:=.int .i64 s.size }
 | .lenL,[.nils]=>some { v:=.int .i64 0 }
 | .lenL,[.ro _ es]=>some { v:=.int .i64 es.length }
 | .lenL,[.own id _ _ n]=>match h id with | some (.row ..)=>some { v:=.int .i64 n,rh:=[id] } | some (.full ..)=>some { v:=.int .i64 n,rh:=[id] } | some (.box _)=>some { v:=.int .i64 n,rh:=[id] } | _=>none
 | .capL,[.nils]=>some { v:=.int .i64 (0:Nat) }
 | .capL,[.own id _ lo _]=>match h id with | some (.full _ _ es)=>if lo ≤ es.length then some { v:=.int .i64 (es.length - lo:Nat),rh:=[id] } else none | _=>none
 | .copy sz,[.own id sz1 lo n,x] =>
  match h id with
  | some (.full sz' ty es) =>
   match elemsU h n x with
   | some (sz2,es2,rh2)=>if sz1 = sz ∧ sz' = sz ∧ sz2 = sz ∧ lo + n ≤ es.length ∧ 0 < n then some { v:=.int .i64 es2.length,rh:=id :: rh2,wh:=[(id,some (.full sz ty (overE es lo es2)))] } else none
   | none=>none
  | some (.row sz' ty es) =>
   match elemsU h n x with
   | some (sz2,es2,rh2)=>if sz1 = sz ∧ sz' = sz ∧ sz2 = sz ∧ lo + n ≤ es.length ∧ 0 < n then some { v:=.int .i64 es2.length,rh:=id :: rh2,wh:=[(id,some (.row sz ty (overE es lo es2)))] } else none
   | none=>none
  | _=>none
 | .appendZ sz ty bytes zs,[.nils,.int _ k] =>
  if 0 < k ∧ k.toNat * bytes ≤ 140737488355328 ∧ k.toNat ≤ maxLen then
   some { v:=.own nx sz 0 k.toNat,wh:=[(nx,some (.row sz ty (List.replicate k.toNat zs)))],nw:=[nx] } else none
 | .appendZ sz ty bytes zs,[.own id sz1 lo n,.int _ k] =>
  match h id with
  | some (.full sz' _ es) =>
   if sz1 = sz ∧ sz' = sz ∧ lo = 0 ∧ n ≤ es.length ∧ 0 < k ∧ es.length < n + k.toNat ∧ (n + k.toNat) * bytes ≤ 140737488355328 ∧ n + k.toNat ≤ maxLen ∧ knownL (es.take n) = true then
    some { v:=.own nx sz 0 (n + k.toNat),rh:=[id],wh:=[(nx,some (.row sz ty (es.take n ++ List.replicate k.toNat zs)))],nw:=[nx] } else none
  | _=>none
 | .clear sz zs,[.own id sz1 lo n] =>
  match h id with
  | some (.full sz' ty es) =>
   if sz1 = sz ∧ sz' = sz ∧ lo + n ≤ es.length ∧ 0 < n then some { v:=.hole,rh:=[id],wh:=[(id,some (.full sz ty (overE es lo (List.replicate n zs))))] } else none
  | some (.row sz' ty es) =>
   if sz1 = sz ∧ sz' = sz ∧ lo + n ≤ es.length ∧ 0 < n then some { v:=.hole,rh:=[id],wh:=[(id,some (.row sz ty (overE es lo (List.replicate n zs))))] } else none
  | _=>none
 | .sliceZ sz ty,[.ro _ _,.int _ a,.int _ b]=>if a = 0 ∧ b = 0 then some { v:=.own nx sz 0 0,wh:=[(nx,some (.row sz ty []))],nw:=[nx] } else none
 | .sliceZ sz ty,[.nils,.int _ a,.int _ b]=>if a = 0 ∧ b = 0 then some { v:=.own nx sz 0 0,wh:=[(nx,some (.row sz ty []))],nw:=[nx] } else none
 | .slice3 _,[.own id _ lo n,.int _ l,.int _ u,.int _ x] =>
  match h id with
  | some (.full _ _ es)=>if 0 ≤ l ∧ l ≤ u ∧ u ≤ x ∧ x ≤ n then some { v:=.undef,rh:=[id] } else none
  | _=>none
 | .mkslice sz ty bytes zs,[.int _ l,.int _ c] =>
  if l = c ∧ 0 ≤ l ∧ bytes * l.toNat ≤ 281474976710656 ∧ l.toNat ≤ maxLen then some { v:=.own nx sz 0 l.toNat,wh:=[(nx,some (.row sz ty (List.replicate l.toNat zs)))],nw:=[nx] } else none
 | .lenM,[.mapr id]=>match h id with | some (.mp kvs)=>some { v:=.int .i64 kvs.length,rh:=[id] } | _=>none
 | .lenM,[.nilm]=>some { v:=.int .i64 0 }
 | .mkfn f nf,ps=>some { v:=.fn f (ps.take nf) (ps.drop nf) }
 | .mkif t,[x]=>some { v:=.iface t x }
 | .append sz ty bytes,[s,x] =>
  match elems h x with
  | some (sz2,es2,rh2) =>
   match s with
   | .nils=>if sz2 = sz ∧ es2.length * bytes ≤ 140737488355328 ∧ es2.length ≤ maxLen then some { v:=.own nx sz 0 es2.length,rh:=rh2,wh:=[(nx,some (.row sz ty es2))],nw:=[nx] } else none
   | .own id sz1 lo n =>
    match h id with
    | some (.row sz1' ty1 es) =>
     if sz2 = sz ∧ sz1 = sz ∧ sz1' = sz ∧ ty1 = ty ∧ lo = 0 ∧ n = es.length ∧ (es.length + es2.length) * bytes ≤ 140737488355328 ∧ es.length + es2.length ≤ maxLen ∧ ¬ id ∈ rh2 then
      some { v:=.own nx sz 0 (es.length + es2.length),rh:=id :: rh2,wh:=[(nx,some (.row sz ty (es ++ es2))),(id,none)],nw:=[nx] } else none
    | some (.full sz1' ty1 es)=>coreAppF nx sz ty bytes id sz1 lo n sz1' ty1 es sz2 es2 rh2
    | _=>none
   | _=>none
  | none =>
   match s with
   | .own id sz1 lo n =>
    match h id with
    | some (.full sz1' ty1 es) =>
     match elemsU h (lenP x) x with
     | some (sz2,es2,rh2)=>coreAppF nx sz ty bytes id sz1 lo n sz1' ty1 es sz2 es2 rh2
     | none=>none
    | _=>none
   | _=>none
 | .slice sz lo hi,.ro sz' es :: bs =>
  match sbnd lo hi es.length bs with
  | some (l,u)=>if sz' = sz then some { v:=.ro sz ((es.drop l).take (u - l)) } else none
  | none=>none
 | .slice sz lo hi,.own id sz' s n :: bs =>
  match h id with
  | some (.row sz'' _ es) =>
   match sbnd lo hi n bs with
   | some (l,u)=>if sz' = sz ∧ sz'' = sz then some { v:=.own id sz (s + l) (u - l),rh:=[id] } else none
   | none=>none
  | some (.full sz'' _ es) =>
   match sbndC lo hi n (es.length - s) bs with
   | some (l,u)=>if sz' = sz ∧ sz'' = sz ∧ s + n ≤ es.length then some { v:=.own id sz (s + l) (u - l),rh:=[id] } else none
   | none=>none
  | _=>none
 | .slice _ lo hi,.nils :: bs =>
  match sbnd lo hi 0 bs with
  | some _=>some { v:=.nils }
  | none=>none
 | .sliceS lo hi,.str s :: bs =>
  match sbnd lo hi s.size bs with
  | some (l,u)=>some { v:=.str (s.extract l u) }
  | none=>none
 | .minmax isMax,[.int k a,.int k' b]=>if k = k' then some { v:=.int k (if isMax then (if a < b then b else a) else (if b < a then b else a)) } else none
 | .minmax isMax,[.int k a,.int k' b,.int k'' c]=>if k = k' ∧ k = k'' then some { v:=.int k (mm isMax (mm isMax a b) c) } else none
 | .mkmap,[]=>some { v:=.mapr nx,wh:=[(nx,some (.mp []))],nw:=[nx] }
 | .lookup z c lk,[.nilm,k]=>if leafIs lk k = true then some { v:=if c then .tup [z,.bool false] else z } else none
 | .lookup z c lk,[.mapr id,k] =>
  match h id with
  | some (.mp kvs) =>
   if leafIs lk k = true then
    match findP lk k kvs with
    | some (some x)=>some { v:=if c then .tup [x,.bool true] else x,rh:=[id] }
    | some none=>some { v:=if c then .tup [z,.bool false] else z,rh:=[id] }
    | none=>none
   else none
  | _=>none
 | .mapset lk,[.mapr id,k,x] =>
  match h id with
  | some (.mp kvs) =>
   if leafIs lk k = true ∧ x.closed = true then
    match setP lk k x kvs with
    | some l=>some { v:=.hole,rh:=[id],wh:=[(id,some (.mp l))] }
    | none=>none
   else none
  | _=>none
 | .lookupF z c ks,ps=>coreLF z c ks ps h
 | .mapsetF ks,ps=>coreSF ks ps h
 | .mapdel lk,ps=>coreDel lk ps h
 | .mq q,ps=>coreQ q ps h nx
 | _,_=>none
def ofConst1:Value → Option PVal
 | .bool b=>some (.bool b)
 | .int k n=>some (.int k n)
 | .string s=>some (.str s)
 | .pointer none=>some .nilp
 | .slice none 0 0=>some .nils
 | .nilFunc=>some .nilf
 | .nilIface=>some .nili
 | .map none=>some .nilm
 | _=>none
def ofConsts:List Value → Option (List PVal)
 | []=>some []
 | v :: r=>match ofConst1 v,ofConsts r with
  | some p,some ps=>some (p :: ps)
  | _,_=>none
def ofConst:Value → Option PVal
 | .agg cs=>(ofConsts cs.toList).map .agg
 | v=>ofConst1 v
def zeroC (v:Value):Option (List PVal):=ofConsts v.cells.toList
def isAggD:TypeDesc → Bool
 | .struct _ | .array _ _=>true
 | _=>false
def kindOf (P:Program) (t:TypeId):Option (Option Nat) :=
 match P.underlying t,P.info? t with
 | some d,some i=>some (if isAggD d then some i.size else none)
 | _,_=>none
def partsOf (P:Program) (fields:Array Field):List (Nat × Operand) → Option (List (Nat × Nat) × List Operand)
 | []=>some ([],[])
 | (i,x) :: r =>
  match fields[i]?,partsOf P fields r with
  | some f,some (ps,xs)=>(P.info? f.type).map fun ti=>((f.offset,ti.size) :: ps,x :: xs)
  | _,_=>none
def partsFull:Nat → List (Nat × Operand) → Option (List Operand)
 | _,[]=>some []
 | k,(i,x) :: r=>if i = k then (partsFull (k + 1) r).map (x :: ·) else none
def partsArr (sz:Nat):List (Nat × Operand) → List (Nat × Nat) × List Operand
 | []=>([],[])
 | (i,x) :: r=>((i * sz,sz) :: (partsArr sz r).1,x :: (partsArr sz r).2)
def LKof:TypeDesc → Option LK
 | .int k=>some (.int k)
 | .bool=>some .bool
 | .string=>some .str
 | _=>none
mutual
def flatK (P:Program):Nat → TypeId → Option (List LK)
 | 0,_=>none
 | d + 1,t =>
  match P.underlying t with
  | some (.int k)=>some [.int k]
  | some .bool=>some [.bool]
  | some .string=>some [.str]
  | some (.struct fs)=>if P.stoodInHeld t then none else flatF P d fs.toList 0
  | _=>none
def flatF (P:Program):Nat → List Field → Nat → Option (List LK)
 | 0,_,_=>none
 | _ + 1,[],_=>some []
 | d + 1,f :: r,off =>
  if f.name = "_" ∨ f.offset ≠ off then none else
  match flatK P d f.type,P.info? f.type,flatF P d r (off + ((P.info? f.type).map (·.size)).getD 0) with
  | some ks,some i,some ls=>if ks.length = i.size then some (ks ++ ls) else none
  | _,_,_=>none
end
def ekOf (P:Program) (t:TypeId):Option EK :=
 match P.underlying t with
 | some .bool=>some .bool
 | some (.int _)=>some .scal
 | some .string=>some .scal
 | some (.struct _)=>if P.eqGuardType P.depth t then none else (flatK P 60 t).map .flat
 | some (.array len e)=>match P.underlying e,P.info? e with
  | some (.int k),some ie=>if P.eqGuardType P.depth t = false ∧ ie.size = 1 then some (.flat (List.replicate len (.int k))) else none
  | _,_=>none
 | some (.pointer _)=>some .ptr
 | some (.slice _)=>some .sl
 | _=>none
def weak1:Option Nat → PVal → PVal
 | some s,.nils=>.ro s []
 | _,p=>p
def weakW:List (Option Nat) → List PVal → List PVal
 | s :: ss,p :: ps=>weak1 s p :: weakW ss ps
 | _,ps=>ps
def cellZ (P:Program):Nat → TypeId → List (Option Nat)
 | 0,_=>[]
 | d + 1,t=>match P.underlying t with
  | some (.slice e)=>[(P.info? e).map (·.size)]
  | some (.struct fs)=>fs.toList.flatMap fun f=>cellZ P d f.type
  | some (.array n e)=>(List.replicate n (cellZ P d e)).flatten
  | _=>[none]
def qmap (P:Program) (t:TypeId):Bool:=Mq && (match P.underlying t with
 | some (.map k _)=>match P.underlying k with
  | some .string=>true
  | _=>false
 | _=>false)
def qzero (P:Program) (t:TypeId):Option PVal:=match P.underlying t with
 | some (.map _ e)=>match P.info? e with
  | some ie=>match ie.zero with
   | some z=>ofConst z
   | none=>none
  | none=>none
 | _=>none
def transQ (P:Program):Op → Option (Option (AOp × List Operand))
 | .makeMap t none=>if qmap P t then some (some (.mq .mk,[])) else none
 | .lookup t x i c=>if qmap P t then some ((qzero P t).map fun z=>(.mq (.look z c),[x,i])) else none
 | .mapEntry t m k=>if qmap P t then some ((qzero P t).map fun z=>(.mq (.ent z),[m,k])) else none
 | .entryStore t m s x=>if qmap P t then some (some (.mq .put,[m,s,x])) else none
 | .call { callee:=.builtin .len,args,argTypes }=>match args.toList,argTypes.toList with
  | [x],[t]=>if qmap P t then some (some (.mq .len,[x])) else none
  | _,_=>none
 | .call { callee:=.builtin .delete,args,argTypes }=>match args.toList,argTypes.toList with
  | [m,k],t :: _=>if qmap P t then some (some (.mq .del,[m,k])) else none
  | _,_=>none
 | _=>none
def trans0 (P:Program):Op → Option (AOp × List Operand)
 | .move x | .assign x=>some (.mov,[x])
 | .pick c a b=>some (.pick,[c,a,b])
 | .alloc e=>match P.info? e with
  | some i=>match i.zero with
   | some z=>(zeroC z).map fun zs=>(.alloc zs,[])
   | none=>none
  | none=>none
 | .box _ x=>some (.box,[x])
 | .build t parts=>match P.info? t,P.underlying t with
  | some i,some (.struct fields)=>match i.zero with
   | some z=>if !(fields.all fun f=>(P.info? f.type).isSome) then none else match zeroC z,partsOf P fields parts.toList with
    | some zs,some (ps,xs)=>some (.build zs ps,xs)
    | _,_=>none
   | none=>none
  | some i,some (.array _ e)=>match i.zero,P.info? e with
   | some z,some ie=>(zeroC z).map fun zs=>(.build zs (partsArr ie.size parts.toList).1,(partsArr ie.size parts.toList).2)
   | _,_=>none
  | _,_=>none
 | .buildSlice t len parts=>match P.underlying t with
  | some (.slice e)=>match P.info? e,partsFull 0 parts.toList with
   | some i,some xs=>if xs.length = len ∧ 0 < i.size ∧ len * i.size ≤ 2 ^ 24 ∧ (i.zero.map fun z=>z.cells.size) = some i.size then some (.bslice i.size e,xs) else none
   | _,_=>none
  | _=>none
 | .load t x=>(kindOf P t).map fun k=>(.load k,[x])
 | .store t x v=>match P.info? t with
  | some i=>some (.store i.size,[x,v])
  | none=>none
 | .nilCheck x=>some (.nilchk,[x])
 | .binOp op t x y _=>(ekOf P t).map fun ek=>(.bin op ek,[x,y])
 | .unOp .not _ x=>some (.unNot,[x])
 | .unOp .neg _ x=>some (.unNeg,[x])
 | .unOp .xor _ x=>some (.unInv,[x])
 | .convert src dst x=>match P.underlying src,P.underlying dst with
  | some (.int _),some (.int k)=>some (.conv k,[x])
  | some (.slice e),some .string=>match P.underlying e with
   | some (.int .u8)=>some (.bstr,[x])
   | _=>none
  | _,_=>none
 | .fieldAddr s x f=>match P.underlying s with
  | some (.struct fields)=>match fields[f]? with
   | some fl=>match P.info? fl.type with
    | some i=>if i.size = 0 then none else some (.fldA fl.offset,[x])
    | none=>none
   | none=>none
  | _=>none
 | .field s x f=>match P.underlying s with
  | some (.struct fields)=>match fields[f]? with
   | some fl=>(kindOf P fl.type).map fun k=>(.fld fl.offset k,[x])
   | none=>none
  | _=>none
 | .indexAddr t x i=>match P.underlying t with
  | some (.slice e)=>(P.info? e).map fun ti=>(.idxA ti.size,[x,i])
  | some (.array len e)=>(P.info? e).map fun ti=>(.idxAA len ti.size,[x,i])
  | _=>none
 | .index t x i=>match P.underlying t with
  | some .string=>some (.idxS,[x,i])
  | some (.array len e)=>match P.info? e,kindOf P e with
   | some ti,some k=>some (.idxV len ti.size k,[x,i])
   | _,_=>none
  | _=>none
 | .extract x j=>some (.ext j,[x])
 | .makeFunc (.func f) first captured=>some (.mkfn f first.size,first.toList ++ captured.toList)
 | .makeInterface t x=>match P.underlying t with
  | some (.interface _)=>none
  | some _=>some (.mkif t,[x])
  | none=>none
 | .call { callee:=.builtin .len,args,argTypes }=>match args.toList,argTypes.toList with
  | [x],[t]=>match P.underlying t with
   | some .string=>some (.lenS,[x])
   | some (.slice _)=>some (.lenL,[x])
   | some (.map _ _)=>some (.lenM,[x])
   | _=>none
  | _,_=>none
 | .call { callee:=.builtin .append,args,argTypes }=>match args.toList,argTypes.toList with
  | [s,x],[t,t']=>if t = t' then match P.underlying t with
    | some (.slice e)=>match P.info? e with
     | some i=>match i.zero with
      | some z=>if 0 < i.size ∧ z.cells.size = i.size then some (.append i.size e i.bytes,[s,x]) else none
      | none=>none
     | none=>none
    | _=>none
   else match P.underlying t,P.underlying t' with
    | some (.slice e),some (.int _)=>match P.info? e with
     | some i=>match i.zero with
      | some z=>if 0 < i.size ∧ z.cells.size = i.size then (zeroC z).map fun zs=>(.appendZ i.size e i.bytes zs,[s,x]) else none
      | none=>none
     | none=>none
    | _,_=>none
  | _,_=>none
 | .call { callee:=.builtin .cap,args,argTypes }=>match args.toList,argTypes.toList with
  | [x],[t]=>match P.underlying t with
   | some (.slice _)=>some (.capL,[x])
   | _=>none
  | _,_=>none
 | .call { callee:=.builtin .copy,args,argTypes }=>match args.toList,argTypes.toList with
  | [d,s],[t,_]=>match P.underlying t with
   | some (.slice e)=>(P.info? e).map fun i=>(.copy i.size,[d,s])
   | _=>none
  | _,_=>none
 | .call { callee:=.builtin .clear,args,argTypes }=>match args.toList,argTypes.toList with
  | [x],[t]=>match P.underlying t with
   | some (.slice e)=>match P.info? e with
    | some i=>match i.zero with
     | some z=>if z.cells.size = i.size then (zeroC z).map fun zs=>(.clear i.size (weakW (cellZ P 20 e) zs),[x]) else none
     | none=>none
    | none=>none
   | _=>none
  | _,_=>none
 | .call { callee:=.builtin .delete,args,argTypes }=>match args.toList,argTypes.toList with
  | [m,k],t :: _=>match P.underlying t with
   | some (.map kt _)=>match P.underlying kt with
    | some d=>(LKof d).map fun lk=>(.mapdel lk,[m,k])
    | none=>none
   | _=>none
  | _,_=>none
 | .call { callee:=.builtin .max,args,.. }=>match args.toList with
  | [x,y]=>some (.minmax true,[x,y])
  | [x,y,z]=>some (.minmax true,[x,y,z])
  | _=>none
 | .call { callee:=.builtin .min,args,.. }=>match args.toList with
  | [x,y]=>some (.minmax false,[x,y])
  | [x,y,z]=>some (.minmax false,[x,y,z])
  | _=>none
 | .slice t x lo hi none=>match P.underlying t with
  | some .string=>some (.sliceS lo.isSome hi.isSome,x :: (lo.toList ++ hi.toList))
  | some (.slice e)=>(P.info? e).map fun ti=>(.slice ti.size lo.isSome hi.isSome,x :: (lo.toList ++ hi.toList))
  | _=>none
 | .slice t x none (some hi) (some mx)=>match P.underlying t with
  | some (.slice e)=>(P.info? e).bind fun ti=>if 0 < ti.size then some (.sliceZ ti.size e,[x,hi,mx]) else none
  | _=>none
 | .slice t x (some lo) (some hi) (some mx)=>match P.underlying t with
  | some (.slice e)=>(P.info? e).map fun ti=>(.slice3 ti.size,[x,lo,hi,mx])
  | _=>none
 | .makeMap _ none=>some (.mkmap,[])
 | .makeSlice t l c=>match P.underlying t with
  | some (.slice e)=>match P.info? e with
   | some i=>match i.zero with
    | some z=>if 0 < i.size ∧ z.cells.size = i.size then (zeroC z).map fun zs=>(.mkslice i.size e i.bytes (weakW (cellZ P 20 e) zs),[l,c]) else none
    | none=>none
   | none=>none
  | _=>none
 | .lookup t x i c=>match P.underlying t with
  | some (.map k e)=>match P.underlying k,P.info? e with
   | some d,some ie=>match LKof d,ie.zero with
    | some lk,some z=>(ofConst z).map fun zp=>(.lookup zp c lk,[x,i])
    | none,some z=>match d,flatK P 60 k with
     | .struct _,some ks=>(ofConst z).map fun zp=>(.lookupF zp c ks,[x,i])
     | _,_=>none
    | _,_=>none
   | _,_=>none
  | _=>none
 | .mapUpdate t m i x=>match P.underlying t with
  | some (.map k _)=>match P.underlying k with
   | some d=>match LKof d with
    | some lk=>some (.mapset lk,[m,i,x])
    | none=>match d,flatK P 60 k with
     | .struct _,some ks=>some (.mapsetF ks,[m,i,x])
     | _,_=>none
   | none=>none
  | _=>none
 | .insert t m i x=>match P.underlying t with
  | some (.map k _)=>match P.underlying k with
   | some d=>match LKof d with
    | some lk=>some (.mapset lk,[m,i,x])
    | none=>match d,flatK P 60 k with
     | .struct _,some ks=>some (.mapsetF ks,[m,i,x])
     | _,_=>none
   | none=>none
  | _=>none
 | .call { callee:=.value (.func f),args,.. }=>some (.call f,args.toList)
 | .call { callee:=.value (.tmp t),args,.. }=>some (.callv,.tmp t :: args.toList)
 | _=>some (.bad,[])
def trans (P:Program) (o:Op):Option (AOp × List Operand):=match transQ P o with
 | some r=>r
 | none=>trans0 P o
theorem transQ_mq {P:Program} {o:Op} {op:AOp} {xs:List Operand} (h:transQ P o = some (some (op,xs))) : ∃ q,op = .mq q:=by
 unfold transQ at h
 split at h
 all_goals
  (repeat' split at h) <;> first
   | (cases h; done)
   | (injection h with h; injection h with h; injection h with h1 h2; exact ⟨_,h1.symm⟩)
   | (injection h with h; obtain ⟨_,_,h⟩:=Option.map_eq_some_iff.1 h; injection h with h1 h2; exact ⟨_,h1.symm⟩)
theorem trans_of0 {P:Program} {o:Op} {op:AOp} {xs:List Operand} (h:trans P o = some (op,xs)) (hn : ∀ q,op ≠ .mq q):trans0 P o = some (op,xs):=by
 unfold trans at h
 split at h
 ·rename_i r hr
  subst h
  obtain ⟨q,hq⟩:=transQ_mq hr
  exact absurd hq (hn q)
 ·exact h
def ofOperand:Operand → Option AX
 | .tmp t=>some (.t t)
 | .const v=>(ofConst v).map .c
 | .func f=>some (.f f)
 | .global _=>none
def ofOp (x:Operand):AX:=match ofOperand x with
 | some a=>a
 | none=>.g
def ofOps:List Operand → List AX
 | []=>[]
 | x :: r=>ofOp x :: ofOps r
def ofGuard (ops:Array Oper):Option (Nat × Bool) → Option (Option (Nat × Bool))
 | none=>some none
 | some (j,b)=>match (ops[j]?).bind (·.dst) with
  | some t=>some (some (t,b))
  | none=>none
def transOper (P:Program) (ops:Array Oper) (o:Oper):Option AO :=
 match ofGuard ops o.guard with
 | some g=>match trans P o.op with
  | some (op,xs)=>some { d:=o.dst,g,op,xs:=ofOps xs }
  | none=>some { d:=o.dst,g,op:=.bad,xs:=[] }
 | none=>none
def transOpers (P:Program) (ops:Array Oper):List Oper → Option (List AO)
 | []=>some []
 | o :: r=>match transOper P ops o,transOpers P ops r with
  | some a,some l=>some (a :: l)
  | _,_=>none
def directs (ops:Array Oper):List (List Nat):=ops.toList.map fun o=>((o.after.toList.filter fun e=>Region.binds .any e).map (·.on))
def transC (P:Program):Code → Option AC
 | .skip=>some .skip
 | .region _ ops draw=>(transOpers P ops ops.toList).map fun l=>.reg (if draw then directs ops else []) l
 | .seq a b=>match transC P a,transC P b with
  | some x,some y=>some (.seq x y)
  | _,_=>none
 | .cond c a b=>match transC P a,transC P b with
  | some x,some y=>some (.cond (ofOp c) x y)
  | _,_=>none
 | .block id a=>(transC P a).map (.block id)
 | .loop a=>(transC P a).map .loop
 | .exit id=>some (.exit id)
 | .ret=>some .ret
 | _=>some .bad
end Go.Proofs.YtakallenldpkiaaGreatDoor.Abs
