/- The functions of the program as Lean functions (printed by this work's own program gen.py). -/
import Derived.Test.YtakallenldpkiaaGreatDoorP0
import Derived.Test.YtakallenldpkiaaGreatDoorP10
set_option linter.unusedVariables false
set_option maxRecDepth 100000
namespace Go.Proofs.YtakallenldpkiaaGreatDoor.Abs
open Go
structure qk where
  A:Int
  N:Int
  deriving DecidableEq,Inhabited
structure THop where
  Iface:Int
  Gate:Int
  deriving DecidableEq,Inhabited
structure qj where
  P:qk
  Proto:Int
  Inst:Int
  Dist:Int
  Metric:Int
  Tag:Int
  Leaked:Bool
  From:Int
  Hops:List THop
  deriving DecidableEq,Inhabited
structure TAct where
  Kind:Int
  P:qk
  Hops:List THop
  L:List qj
  deriving DecidableEq,Inhabited
structure TS where
  e0:Int
  e1:Int
  deriving DecidableEq,Inhabited
structure TNode where
  p:qk
  v:Int
  isf:Bool
  kids:TS
  deriving DecidableEq,Inhabited
structure TTrie where
  l:List TNode
  free:List Int
  root:Int
  n:Int
  deriving DecidableEq,Inhabited
structure TGroup where
  hops:List THop
  text:ByteArray
  many:Int
  deriving DecidableEq,Inhabited
structure TFib where
  t:TTrie
  sets:List TGroup
  atf:QMap Int
  deriving DecidableEq,Inhabited
structure TEntry where
  P:qk
  V:Int
  deriving DecidableEq,Inhabited
def F20:TTrie :=
  (⟨([]:List TNode),([]:List Int),(-1),0⟩ : TTrie)
def F5:TFib :=
  (let c1:=F20
   (⟨c1,([]:List TGroup),((0,[]):QMap Int)⟩ : TFib))
def F6l1  : List qj → Option (Except Bool Unit)
  | []=>some (.ok ())
  | x3 :: l3=>(bif decide (20 < (x3.Hops.length:Int)) then some (.error (false)) else F6l1 l3)
def F6 (a0:TAct):Option Bool :=
  (bif decide (20 < (a0.Hops.length:Int)) then
    some false
  else
    (bif decide (40 < (a0.L.length:Int)) then
      some false
    else
      (oexc (F6l1 a0.L) (fun r=>some r) (fun acc3=>some true))))
def F57 (x0:TNode) (a1:List TEntry):Option (List TEntry) :=
  (bif x0.isf then
    (bif decide (a1.length < 1099511627776) then
      some (a1 ++ ([(⟨x0.p,x0.v⟩ : TEntry)]:List TEntry))
    else none)
  else
    some a1)
def F43 (n0:Int):Bool :=
  ((decide (0 ≤ n0)) && (decide (n0 ≤ 32)))
def F44 (n0:Int):Int :=
  IntKind.u32.wrap (shl_ .u64 4294967295 (IntKind.i64.wrap (32 - (min_ (max_ n0 0) 32))))
def F28 (p0:qk):Bool :=
  (let c5:=F43 p0.N
   (c5 && (let c11:=F44 p0.N
    decide (bit_andNot .u32 p0.A c11 = 0))))
def F66 (p0:qk) (a1:Int):Bool :=
  (let c6:=F28 p0
   (c6 && (let c11:=F44 p0.N
    decide (bit_and .u32 a1 c11 = p0.A))))
def F51 (p0:qk) (q1:qk):Bool :=
  (let c6:=F28 q1
   (c6 && ((decide (p0.N ≤ q1.N)) && (F66 p0 q1.A))))
def F77 (a0:Int) (i1:Int):Int :=
  (bif decide (i1 < 0) then
    0
  else
    (bif decide (32 ≤ i1) then 0 else IntKind.i64.wrap (bit_and .u32 (shr_ .u32 a0 (IntKind.i64.wrap (31 - i1))) 1)))
def F60 (above0:qk) (p1:qk):Int :=
  F77 p1.A above0.N
def F56l1 (t0:TTrie) (p1:qk) (fuel0:Nat) (i6:Int) (row5:List TEntry):Option (Except (List TEntry) (Int × (List TEntry))) :=
  match fuel0 with
  | 0=>none
  | fuel0 + 1=>(bif decide (i6 = (-1)) then
        some (.ok (i6,row5))
      else
        (obind (getI t0.l i6) (fun x910 =>
          (let c26:=F51 x910.p p1
           (bif c26 then
             ((obind (F57 x910 row5) (fun c37 =>
                (bif decide (x910.p.N = p1.N) then
                  some (.error (c37))
                else
                  (let c47:=F60 x910.p p1
                   (bif decide (c47 = 0) then
                     F56l1 t0 p1 fuel0 x910.kids.e0 c37
                   else (bif decide (c47 = 1) then
                     F56l1 t0 p1 fuel0 x910.kids.e1 c37
                   else none)))))))
           else
             some (.ok (i6,row5)))))))
def F56 (t0:TTrie) (p1:qk) (a1_each2:List TEntry):Option (List TEntry) :=
  (oexc (F56l1 t0 p1 100 t0.root a1_each2) (fun r=>some r) (fun acc0=>some acc0.2))
def F42 (t0:TTrie) (p1:qk):Option (List TEntry) :=
  (obind (F56 t0 p1 ([]:List TEntry)) (fun c9=>some c9))
def F25 (t0:TTrie) (a1:Int):Option (TEntry × Bool) :=
  ((obind (F42 t0 (⟨a1,32⟩ : qk)) (fun c10 =>
     (bif decide ((c10.length:Int) = 0) then
       some ((⟨(⟨0,0⟩ : qk),0⟩ : TEntry),false)
     else
       (obind (getI c10 (IntKind.i64.wrap ((c10.length:Int) - 1))) (fun x902=>some (x902,true)))))))
def F11 (f0:TFib) (a1:Int):Option (qk × (List THop) × Bool) :=
  ((obind (F25 f0.t a1) (fun c18 =>
     (bif c18.2 then
       (obind (getI f0.sets c18.1.V) (fun x902 =>
         (bif decide (x902.hops.length < 1099511627776) then
           some (c18.1.P,x902.hops,true)
         else none)))
     else
       some ((⟨0,0⟩ : qk),([]:List THop),false)))))
def F31 (t0:TTrie) (p1:qk):Option (Int × Bool) :=
  ((obind (F42 t0 p1) (fun c9 =>
     (bif decide ((c9.length:Int) = 0) then
       some (0,false)
     else
       (obind (getI c9 (IntKind.i64.wrap ((c9.length:Int) - 1))) (fun x902=>(bif decide (x902.P.A = p1.A) && (decide (x902.P.N = p1.N) && true) then some (x902.V,true) else some (0,false))))))))
def F65 (t0:TTrie) (i1:Int):Option (Int × TTrie) :=
  (obind (getI t0.l i1) (fun x900 =>
    (bif x900.isf then
      some (i1,t0)
    else
      (bif decide (x900.kids.e0 = (-1)) then
        (bif decide (t0.free.length < 1099511627776) then
          some (max_ x900.kids.e0 x900.kids.e1,(⟨t0.l,(t0.free ++ ([i1]:List Int)),t0.root,t0.n⟩ : TTrie))
        else none)
      else
        (bif decide (x900.kids.e1 = (-1)) then
          (bif decide (t0.free.length < 1099511627776) then
            some (max_ x900.kids.e0 x900.kids.e1,(⟨t0.l,(t0.free ++ ([i1]:List Int)),t0.root,t0.n⟩ : TTrie))
          else none)
        else
          some (i1,t0))))))
def F49 (fuel:Nat) (t0:TTrie) (i1:Int) (p2:qk):Option (Int × TTrie) :=
  match fuel with
  | 0=>none
  | fuel + 1 =>
    (obind (getI t0.l i1) (fun x900 =>
      (bif (decide (x900.p.A = p2.A) && (decide (x900.p.N = p2.N) && true)) then
        (obind (F65 (⟨((t0.l.set i1.toNat (⟨x900.p,x900.v,false,x900.kids⟩ : TNode)).set i1.toNat (⟨((⟨x900.p,x900.v,false,x900.kids⟩ : TNode).p),0,(⟨x900.p,x900.v,false,x900.kids⟩ : TNode).isf,((⟨x900.p,x900.v,false,x900.kids⟩ : TNode).kids)⟩ : TNode)),t0.free,t0.root,t0.n⟩ : TTrie) i1) (fun c35=>some (c35.1,c35.2)))
      else
        (let c45:=F60 x900.p p2
         (bif decide (c45 = 0) then
           (obind (F49 fuel t0 x900.kids.e0 p2) (fun c58=>(obind (getI c58.2.l i1) (fun x904=>(obind (F65 (⟨(c58.2.l.set i1.toNat (⟨x904.p,x904.v,x904.isf,(⟨c58.1,x904.kids.e1⟩ : TS)⟩ : TNode)),c58.2.free,c58.2.root,c58.2.n⟩ : TTrie) i1) (fun c71=>some (c71.1,c71.2)))))))
         else (bif decide (c45 = 1) then
           (obind (F49 fuel t0 x900.kids.e1 p2) (fun c58=>(obind (getI c58.2.l i1) (fun x908=>(obind (F65 (⟨(c58.2.l.set i1.toNat (⟨x908.p,x908.v,x908.isf,(⟨x908.kids.e0,c58.1⟩ : TS)⟩ : TNode)),c58.2.free,c58.2.root,c58.2.n⟩ : TTrie) i1) (fun c71=>some (c71.1,c71.2)))))))
         else none))))))
def F32 (t0:TTrie) (p1:qk):Option (Bool × TTrie) :=
  ((obind (F31 t0 p1) (fun c10 =>
     (bif c10.2 then
       (obind (F49 100 (⟨t0.l,t0.free,t0.root,IntKind.i64.wrap (t0.n - 1)⟩ : TTrie) t0.root p1) (fun c29=>some (true,(⟨c29.2.l,c29.2.free,c29.1,c29.2.n⟩ : TTrie))))
     else
       some (false,t0)))))
def F33 (f0:TFib) (n1:Int):Option TFib :=
  (obind (getI f0.sets n1) (fun x900 =>
    (bif decide ((⟨x900.hops,x900.text,IntKind.i64.wrap (x900.many - 1)⟩ : TGroup).many = 0) then
      some (⟨f0.t,((f0.sets.set n1.toNat (⟨x900.hops,x900.text,IntKind.i64.wrap (x900.many - 1)⟩ : TGroup)).set n1.toNat (⟨([]:List THop),(bstr []),0⟩ : TGroup)),(qdel f0.atf ((⟨x900.hops,x900.text,IntKind.i64.wrap (x900.many - 1)⟩ : TGroup).text))⟩ : TFib)
    else
      some (⟨f0.t,(f0.sets.set n1.toNat (⟨x900.hops,x900.text,IntKind.i64.wrap (x900.many - 1)⟩ : TGroup)),f0.atf⟩ : TFib))))
def F19 (f0:TFib) (p1:qk):Option (Bool × TFib) :=
  ((obind (F31 f0.t p1) (fun c15 =>
     (bif c15.2 then
       (obind (F32 f0.t p1) (fun c24=>(obind (F33 (⟨c24.2,f0.sets,f0.atf⟩ : TFib) c15.1) (fun c27=>some (true,c27)))))
     else
       some (false,f0)))))
def F35l1 (s21:List THop):(i13:Nat) → List THop → Option (Except Bool Unit)
  | i13,[]=>some (.ok ())
  | i13,x13 :: l13=>(obind (getI s21 (i13:Int)) (fun x904=>(bif decide (x13.Iface = x904.Iface) && (decide (x13.Gate = x904.Gate) && true) then F35l1 s21 (i13 + 1) l13 else some (.error (false)))))
def F35 (s10:List THop) (s21:List THop):Option Bool :=
  (bif decide ((s10.length:Int) = (s21.length:Int)) then
    (oexc (F35l1 s21 0 s10) (fun r=>some r) (fun acc13=>some true))
  else
    some false)
def F23 (f0:TFib) (p1:qk) (l2:List THop):Option Bool :=
  ((obind (F31 f0.t p1) (fun c15 =>
     (bif c15.2 then
       (obind (getI f0.sets c15.1) (fun x902=>(obind (F35 x902.hops l2) (fun c29=>some c29))))
     else
       some false))))
def F38l1  : List Int → Except Int Unit
  | []=>.ok ()
  | x8 :: l8=>(bif decide (x8 = 0) then F38l1 l8 else .error (x8))
def F38 (vals0:List Int):Int :=
  (match F38l1 vals0 with
  | .error r=>r
  | .ok _=>0)
def F54 (x0:Int):Bool :=
  !decide (x0 = x0)
def F39 (x0:Int) (y1:Int):Int :=
  (let c8:=F54 x0
   (let c10:=F54 y1
    (bif c8 then
      (bif c10 then 0 else (-1))
    else
      (bif c10 then 1 else (bif decide (x0 < y1) then (-1) else (bif decide (y1 < x0) then 1 else 0))))))
def F55 (x0:Int):Bool :=
  !decide (x0 = x0)
def F40 (x0:Int) (y1:Int):Int :=
  (let c8:=F55 x0
   (let c10:=F55 y1
    (bif c8 then
      (bif c10 then 0 else (-1))
    else
      (bif c10 then 1 else (bif decide (x0 < y1) then (-1) else (bif decide (y1 < x0) then 1 else 0))))))
def F37 (a0:THop) (b1:THop):Int :=
  (let c9:=F39 a0.Iface b1.Iface
   (let c14:=F40 a0.Gate b1.Gate
    F38 ([c9,c14]:List Int)))
def F24 (l0:List THop):Option (List THop) :=
  (bif decide (l0.length < 1099511627776) then
    (bif decide ((sortQ F37 l0).length < 1099511627776) then
      some (compactQ (fun (a b:THop)=>(decide (a.Iface = b.Iface) && (decide (a.Gate = b.Gate) && true))) (sortQ F37 l0))
    else none)
  else none)
def F58 (t0:TTrie) (x1:TNode):Option (Int × TTrie) :=
  (bif decide (0 < (t0.free.length:Int)) then
    (obind (getI t0.free (IntKind.i64.wrap ((t0.free.length:Int) - 1))) (fun x902 =>
      (bif decide ((0:Int) ≤ IntKind.i64.wrap ((t0.free.length:Int) - 1)) then
        (bif decide (IntKind.i64.wrap ((t0.free.length:Int) - 1) ≤ (t0.free.length:Int)) then
          (obind (getI t0.l x902) (fun x905=>some (x902,(⟨(t0.l.set x902.toNat x1),(t0.free.take (IntKind.i64.wrap ((t0.free.length:Int) - 1)).toNat),t0.root,t0.n⟩ : TTrie))))
        else none)
      else none)))
  else
    (bif decide (t0.l.length < 1099511627776) then
      some (IntKind.i64.wrap (((t0.l ++ ([x1]:List TNode)).length:Int) - 1),(⟨(t0.l ++ ([x1]:List TNode)),t0.free,t0.root,t0.n⟩ : TTrie))
    else none))
def F59 (p0:qk) (v1:Int):TNode :=
  (⟨p0,v1,true,(⟨(-1),(-1)⟩ : TS)⟩ : TNode)
def F75 (x0:Int):Int :=
  (bif decide (65536 ≤ x0) then
    (bif decide (256 ≤ (Int.fdiv x0 (2 ^ 16))) then
      IntKind.i64.wrap (24 + (IntKind.i64.wrap (strAt (bstr [0,1,2,2,3,3,3,3,4,4,4,4,4,4,4,4,5,5,5,5,5,5,5,5,5,5,5,5,5,5,5,5,6,6,6,6,6,6,6,6,6,6,6,6,6,6,6,6,6,6,6,6,6,6,6,6,6,6,6,6,6,6,6,6,7,7,7,7,7,7,7,7,7,7,7,7,7,7,7,7,7,7,7,7,7,7,7,7,7,7,7,7,7,7,7,7,7,7,7,7,7,7,7,7,7,7,7,7,7,7,7,7,7,7,7,7,7,7,7,7,7,7,7,7,7,7,7,7,8,8,8,8,8,8,8,8,8,8,8,8,8,8,8,8,8,8,8,8,8,8,8,8,8,8,8,8,8,8,8,8,8,8,8,8,8,8,8,8,8,8,8,8,8,8,8,8,8,8,8,8,8,8,8,8,8,8,8,8,8,8,8,8,8,8,8,8,8,8,8,8,8,8,8,8,8,8,8,8,8,8,8,8,8,8,8,8,8,8,8,8,8,8,8,8,8,8,8,8,8,8,8,8,8,8,8,8,8,8,8,8,8,8,8,8,8,8,8,8,8,8,8,8,8,8,8,8]) (IntKind.u8.wrap (Int.fdiv (Int.fdiv x0 (2 ^ 16)) (2 ^ 8))))))
    else
      IntKind.i64.wrap (16 + (IntKind.i64.wrap (strAt (bstr [0,1,2,2,3,3,3,3,4,4,4,4,4,4,4,4,5,5,5,5,5,5,5,5,5,5,5,5,5,5,5,5,6,6,6,6,6,6,6,6,6,6,6,6,6,6,6,6,6,6,6,6,6,6,6,6,6,6,6,6,6,6,6,6,7,7,7,7,7,7,7,7,7,7,7,7,7,7,7,7,7,7,7,7,7,7,7,7,7,7,7,7,7,7,7,7,7,7,7,7,7,7,7,7,7,7,7,7,7,7,7,7,7,7,7,7,7,7,7,7,7,7,7,7,7,7,7,7,8,8,8,8,8,8,8,8,8,8,8,8,8,8,8,8,8,8,8,8,8,8,8,8,8,8,8,8,8,8,8,8,8,8,8,8,8,8,8,8,8,8,8,8,8,8,8,8,8,8,8,8,8,8,8,8,8,8,8,8,8,8,8,8,8,8,8,8,8,8,8,8,8,8,8,8,8,8,8,8,8,8,8,8,8,8,8,8,8,8,8,8,8,8,8,8,8,8,8,8,8,8,8,8,8,8,8,8,8,8,8,8,8,8,8,8,8,8,8,8,8,8,8,8,8,8,8,8]) (IntKind.u8.wrap (Int.fdiv x0 (2 ^ 16)))))))
  else
    (bif decide (256 ≤ x0) then
      IntKind.i64.wrap (8 + (IntKind.i64.wrap (strAt (bstr [0,1,2,2,3,3,3,3,4,4,4,4,4,4,4,4,5,5,5,5,5,5,5,5,5,5,5,5,5,5,5,5,6,6,6,6,6,6,6,6,6,6,6,6,6,6,6,6,6,6,6,6,6,6,6,6,6,6,6,6,6,6,6,6,7,7,7,7,7,7,7,7,7,7,7,7,7,7,7,7,7,7,7,7,7,7,7,7,7,7,7,7,7,7,7,7,7,7,7,7,7,7,7,7,7,7,7,7,7,7,7,7,7,7,7,7,7,7,7,7,7,7,7,7,7,7,7,7,8,8,8,8,8,8,8,8,8,8,8,8,8,8,8,8,8,8,8,8,8,8,8,8,8,8,8,8,8,8,8,8,8,8,8,8,8,8,8,8,8,8,8,8,8,8,8,8,8,8,8,8,8,8,8,8,8,8,8,8,8,8,8,8,8,8,8,8,8,8,8,8,8,8,8,8,8,8,8,8,8,8,8,8,8,8,8,8,8,8,8,8,8,8,8,8,8,8,8,8,8,8,8,8,8,8,8,8,8,8,8,8,8,8,8,8,8,8,8,8,8,8,8,8,8,8,8,8]) (IntKind.u8.wrap (Int.fdiv x0 (2 ^ 8))))))
    else
      IntKind.i64.wrap (0 + (IntKind.i64.wrap (strAt (bstr [0,1,2,2,3,3,3,3,4,4,4,4,4,4,4,4,5,5,5,5,5,5,5,5,5,5,5,5,5,5,5,5,6,6,6,6,6,6,6,6,6,6,6,6,6,6,6,6,6,6,6,6,6,6,6,6,6,6,6,6,6,6,6,6,7,7,7,7,7,7,7,7,7,7,7,7,7,7,7,7,7,7,7,7,7,7,7,7,7,7,7,7,7,7,7,7,7,7,7,7,7,7,7,7,7,7,7,7,7,7,7,7,7,7,7,7,7,7,7,7,7,7,7,7,7,7,7,7,8,8,8,8,8,8,8,8,8,8,8,8,8,8,8,8,8,8,8,8,8,8,8,8,8,8,8,8,8,8,8,8,8,8,8,8,8,8,8,8,8,8,8,8,8,8,8,8,8,8,8,8,8,8,8,8,8,8,8,8,8,8,8,8,8,8,8,8,8,8,8,8,8,8,8,8,8,8,8,8,8,8,8,8,8,8,8,8,8,8,8,8,8,8,8,8,8,8,8,8,8,8,8,8,8,8,8,8,8,8,8,8,8,8,8,8,8,8,8,8,8,8,8,8,8,8,8,8]) (IntKind.u8.wrap x0))))))
def F78 (x0:Int):Int :=
  (let c4:=F75 x0
   IntKind.i64.wrap (32 - c4))
def F61 (p0:qk) (q1:qk):qk :=
  (let c7:=F28 p0
   (bif c7 then
     (let c11:=F28 q1
      (bif c11 then
        (let c24:=F78 (bit_xor .u32 p0.A q1.A)
         (let c29:=F44 (min_ (min_ p0.N q1.N) c24)
          (⟨bit_and .u32 p0.A c29,min_ (min_ p0.N q1.N) c24⟩ : qk)))
      else
        (⟨0,0⟩ : qk)))
   else
     (⟨0,0⟩ : qk)))
def F45 (fuel:Nat) (t0:TTrie) (i1:Int) (p2:qk) (v3:Int):Option (Int × TTrie) :=
  match fuel with
  | 0=>none
  | fuel + 1 =>
    (bif decide (i1 = (-1)) then
      (let c26:=F59 p2 v3
       (obind (F58 (⟨t0.l,t0.free,t0.root,IntKind.i64.wrap (t0.n + 1)⟩ : TTrie) c26) (fun c27=>some (c27.1,c27.2))))
    else
      (obind (getI t0.l i1) (fun x901 =>
        (bif (decide (x901.p.A = p2.A) && (decide (x901.p.N = p2.N) && true)) then
          (bif x901.isf then
            some (i1,(⟨((t0.l.set i1.toNat (⟨x901.p,v3,x901.isf,x901.kids⟩ : TNode)).set i1.toNat (⟨((⟨x901.p,v3,x901.isf,x901.kids⟩ : TNode).p),(⟨x901.p,v3,x901.isf,x901.kids⟩ : TNode).v,true,((⟨x901.p,v3,x901.isf,x901.kids⟩ : TNode).kids)⟩ : TNode)),t0.free,t0.root,t0.n⟩ : TTrie))
          else
            some (i1,(⟨((t0.l.set i1.toNat (⟨x901.p,v3,x901.isf,x901.kids⟩ : TNode)).set i1.toNat (⟨((⟨x901.p,v3,x901.isf,x901.kids⟩ : TNode).p),(⟨x901.p,v3,x901.isf,x901.kids⟩ : TNode).v,true,((⟨x901.p,v3,x901.isf,x901.kids⟩ : TNode).kids)⟩ : TNode)),t0.free,t0.root,IntKind.i64.wrap (t0.n + 1)⟩ : TTrie)))
        else
          (let c75:=F51 x901.p p2
           (bif c75 then
             (let c78:=F60 x901.p p2
              (bif decide (c78 = 0) then
                (obind (F45 fuel t0 x901.kids.e0 p2 v3) (fun c92=>(obind (getI c92.2.l i1) (fun x924=>some (i1,(⟨(c92.2.l.set i1.toNat (⟨x924.p,x924.v,x924.isf,(⟨c92.1,x924.kids.e1⟩ : TS)⟩ : TNode)),c92.2.free,c92.2.root,c92.2.n⟩ : TTrie))))))
              else (bif decide (c78 = 1) then
                (obind (F45 fuel t0 x901.kids.e1 p2 v3) (fun c92=>(obind (getI c92.2.l i1) (fun x927=>some (i1,(⟨(c92.2.l.set i1.toNat (⟨x927.p,x927.v,x927.isf,(⟨x927.kids.e0,c92.1⟩ : TS)⟩ : TNode)),c92.2.free,c92.2.root,c92.2.n⟩ : TTrie))))))
              else none)))
           else
             (let c113:=F59 p2 v3
              (let c116:=F51 p2 x901.p
               (bif c116 then
                 (let c119:=F60 p2 x901.p
                  (bif decide (c119 = 0) then
                    (obind (F58 (⟨t0.l,t0.free,t0.root,IntKind.i64.wrap (t0.n + 1)⟩ : TTrie) (⟨c113.p,c113.v,c113.isf,(⟨i1,c113.kids.e1⟩ : TS)⟩ : TNode)) (fun c125=>some (c125.1,c125.2)))
                  else (bif decide (c119 = 1) then
                    (obind (F58 (⟨t0.l,t0.free,t0.root,IntKind.i64.wrap (t0.n + 1)⟩ : TTrie) (⟨c113.p,c113.v,c113.isf,(⟨c113.kids.e0,i1⟩ : TS)⟩ : TNode)) (fun c125=>some (c125.1,c125.2)))
                  else none)))
               else
                 (let c128:=F61 p2 x901.p
                  (let c134:=F60 c128 x901.p
                   (bif decide (c134 = 0) then
                     (let c141:=F60 c128 p2
                      ((obind (F58 (⟨t0.l,t0.free,t0.root,IntKind.i64.wrap (t0.n + 1)⟩ : TTrie) c113) (fun c144 =>
                         (bif decide (c141 = 0) then
                           (obind (F58 c144.2 (⟨c128,0,false,(⟨c144.1,(-1)⟩ : TS)⟩ : TNode)) (fun c149=>some (c149.1,c149.2)))
                         else (bif decide (c141 = 1) then
                           (obind (F58 c144.2 (⟨c128,0,false,(⟨i1,c144.1⟩ : TS)⟩ : TNode)) (fun c149=>some (c149.1,c149.2)))
                         else none))))))
                   else (bif decide (c134 = 1) then
                     (let c141:=F60 c128 p2
                      ((obind (F58 (⟨t0.l,t0.free,t0.root,IntKind.i64.wrap (t0.n + 1)⟩ : TTrie) c113) (fun c144 =>
                         (bif decide (c141 = 0) then
                           (obind (F58 c144.2 (⟨c128,0,false,(⟨c144.1,i1⟩ : TS)⟩ : TNode)) (fun c149=>some (c149.1,c149.2)))
                         else (bif decide (c141 = 1) then
                           (obind (F58 c144.2 (⟨c128,0,false,(⟨(-1),c144.1⟩ : TS)⟩ : TNode)) (fun c149=>some (c149.1,c149.2)))
                         else none))))))
                   else none)))))))))))))
def F29 (t0:TTrie) (p1:qk) (v2:Int):Option (Int × TTrie) :=
  (let c13:=F28 p1
   (bif c13 then
     ((obind (F31 t0 p1) (fun c19 =>
        (bif c19.2 then
          (obind (F45 100 t0 t0.root p1 v2) (fun c39=>some (0,(⟨c39.2.l,c39.2.free,c39.1,c39.2.n⟩ : TTrie))))
        else
          (bif decide (5000 ≤ t0.n) then
            some (8,t0)
          else
            (obind (F45 100 t0 t0.root p1 v2) (fun c39=>some (0,(⟨c39.2.l,c39.2.free,c39.1,c39.2.n⟩ : TTrie)))))))))
   else
     some (1,t0)))
def F46l1  : (out3:List ByteArray) → List THop → Option (List ByteArray)
  | out3,[]=>some out3
  | out3,x8 :: l8=>((obind (itoaO x8.Iface) (fun c15 =>
         (bif decide (c15.size + (bstr [32]).size ≤ 9223372036854775807) then
           ((obind (fmtuO (IntKind.u64.wrap x8.Gate) 10) (fun c20 =>
              (bif decide ((c15 ++ (bstr [32])).size + c20.size ≤ 9223372036854775807) then
                (bif decide (out3.length < 1099511627776) then
                  F46l1 (out3 ++ ([((c15 ++ (bstr [32])) ++ c20)]:List ByteArray)) l8
                else none)
              else none))))
         else none))))
def F46 (l0:List THop):Option ByteArray :=
  (obind (F46l1 ([]:List ByteArray) l0) (fun acc8=>(obind (joinO acc8 (bstr [44])) (fun c26=>some c26))))
def F47l1 (hf1:TGroup → Bool):(i8:Nat) → List TGroup → Option (Except Int Unit)
  | i8,[]=>some (.ok ())
  | i8,x8 :: l8=>(let c16:=hf1 x8
       (bif c16 then some (.error ((i8:Int))) else F47l1 hf1 (i8 + 1) l8))
def F47 (s0:List TGroup) (hf1:TGroup → Bool):Option Int :=
  (oexc (F47l1 hf1 0 s0) (fun r=>some r) (fun acc8=>some (-1)))
def F48 (g0:TGroup):Bool :=
  decide (g0.many = 0)
def F30 (f0:TFib) (l1:List THop):Option (Int × TFib) :=
  ((obind (F46 l1) (fun c9 =>
     (bif (qlook f0.atf c9).isSome then
       (obind (getI f0.sets ((qlook f0.atf c9).getD 0)) (fun x907=>some (((qlook f0.atf c9).getD 0),(⟨f0.t,(f0.sets.set ((qlook f0.atf c9).getD 0).toNat (⟨x907.hops,x907.text,IntKind.i64.wrap (x907.many + 1)⟩ : TGroup)),f0.atf⟩ : TFib))))
     else
       ((obind (F47 f0.sets (fun y0=>F48 y0)) (fun c25 =>
          (bif decide (c25 < 0) then
            (bif decide (f0.sets.length < 1099511627776) then
              (obind (getI (f0.sets ++ ([(⟨([]:List THop),(bstr []),0⟩ : TGroup)]:List TGroup)) (f0.sets.length:Int)) (fun x905 =>
                (bif decide (qhas (qent f0.atf c9 0) (qstamp f0.atf c9) = true) then
                  some ((f0.sets.length:Int),(⟨f0.t,(((f0.sets ++ ([(⟨([]:List THop),(bstr []),0⟩ : TGroup)]:List TGroup)).set (f0.sets.length:Int).toNat (⟨l1,c9,0⟩ : TGroup)).set (f0.sets.length:Int).toNat (⟨(⟨l1,c9,0⟩ : TGroup).hops,(⟨l1,c9,0⟩ : TGroup).text,IntKind.i64.wrap (((⟨l1,c9,0⟩ : TGroup).many) + 1)⟩ : TGroup)),(qput (qent f0.atf c9 0) (qstamp f0.atf c9) (f0.sets.length:Int))⟩ : TFib))
                else none)))
            else none)
          else
            (obind (getI f0.sets c25) (fun x902 =>
              (bif decide (qhas (qent f0.atf c9 0) (qstamp f0.atf c9) = true) then
                some (c25,(⟨f0.t,((f0.sets.set c25.toNat (⟨l1,c9,0⟩ : TGroup)).set c25.toNat (⟨(⟨l1,c9,0⟩ : TGroup).hops,(⟨l1,c9,0⟩ : TGroup).text,IntKind.i64.wrap (((⟨l1,c9,0⟩ : TGroup).many) + 1)⟩ : TGroup)),(qput (qent f0.atf c9 0) (qstamp f0.atf c9) c25)⟩ : TFib))
              else none)))))))))))
def F16 (f0:TFib) (p1:qk) (hops2:List THop):Option (Int × TFib) :=
  ((obind (F24 hops2) (fun c10 =>
     (let c15:=F28 p1
      (bif c15 then
        (bif decide ((c10.length:Int) = 0) then
          some (1,f0)
        else
          (bif decide (8 < (c10.length:Int)) then
            some (1,f0)
          else
            ((obind (F23 f0 p1 c10) (fun c31 =>
               (bif c31 then
                 some (0,f0)
               else
                 ((obind (F19 f0 p1) (fun c34 =>
                    (bif c34.1 then
                      (obind (F30 c34.2 c10) (fun c52=>(obind (F29 c52.2.t p1 c52.1) (fun c53=>some (c53.1,(⟨c53.2,c52.2.sets,c52.2.atf⟩ : TFib))))))
                    else
                      ((obind (F29 c34.2.t p1 0) (fun c41 =>
                         (bif decide (c41.1 = 0) then
                           (obind (F30 (⟨c41.2,c34.2.sets,c34.2.atf⟩ : TFib) c10) (fun c52=>(obind (F29 c52.2.t p1 c52.1) (fun c53=>some (c53.1,(⟨c53.2,c52.2.sets,c52.2.atf⟩ : TFib))))))
                         else
                           some (c41.1,(⟨c41.2,c34.2.sets,c34.2.atf⟩ : TFib))))))))))))))))
      else
        some (1,f0))))))
def F17 (f0:TFib):Option Int :=
  some (f0.atf.2.length:Int)
def F7:Option Bool :=
  (let c8:=F5
   ((obind (F16 c8 (⟨0,0⟩ : qk) ([(⟨3,0⟩ : THop),(⟨1,0⟩ : THop),(⟨3,0⟩ : THop)]:List THop)) (fun c18 =>
      ((obind (F16 c18.2 (⟨2147483648,1⟩ : qk) ([(⟨3,0⟩ : THop),(⟨1,0⟩ : THop),(⟨3,0⟩ : THop)]:List THop)) (fun c22 =>
         ((obind (F11 c22.2 2147483648) (fun c25 =>
            (bif decide (c18.1 = 0) then
              (bif decide (c22.1 = 0) then
                ((obind (F17 c22.2) (fun c37 =>
                   (bif decide (c37 = 1) then
                     (bif c25.2.2 then
                       (bif decide (c25.1.N = 1) then
                         (bif decide ((c25.2.1.length:Int) = 2) then (obind (getI c25.2.1 0) (fun x911=>some (decide (x911.Iface = 1)))) else some false)
                       else
                         some false)
                     else
                       some false)
                   else
                     some false))))
              else
                some false)
            else
              some false)))))))))))
def F21 (a0:Int) (i1:Int):Int :=
  (bif decide (i1 < 0) then
    0
  else
    (bif decide (31 < i1) then
      0
    else
      IntKind.i64.wrap (bit_and .u32 (shr_ .u32 a0 (IntKind.u64.wrap (IntKind.i64.wrap (31 - i1)))) 1)))
def F8l1 (p0:qk) (fuel3:Nat) (i3:Int):Except Bool Unit :=
  bif decide (i3 < 32) then
    match fuel3 with
    | 0=>.ok ()
    | fuel3 + 1=>(let c21:=F21 p0.A i3
         (bif decide (c21 = 1) then .error (false) else F8l1 p0 fuel3 (IntKind.i64.wrap (i3 + 1))))
  else .ok ()
def F8 (p0:qk):Bool :=
  (bif decide (p0.N < 0) then
    false
  else
    (bif decide (32 < p0.N) then
      false
    else
      (match F8l1 p0 (fuelUp p0.N 32) p0.N with
      | .error r=>r
      | .ok _=>true)))
def F9l1 (p0:qk) (a1:Int) (fuel5:Nat) (i5:Int):Except Bool Unit :=
  bif decide (i5 < p0.N) then
    match fuel5 with
    | 0=>.ok ()
    | fuel5 + 1=>(let c18:=F21 p0.A i5
         (let c21:=F21 a1 i5
          (bif decide (c18 = c21) then F9l1 p0 a1 fuel5 (IntKind.i64.wrap (i5 + 1)) else .error (false))))
  else .ok ()
def F9 (p0:qk) (a1:Int):Bool :=
  (let c7:=F8 p0
   (c7 && (match F9l1 p0 a1 (fuelUp 0 p0.N) 0 with
   | .error r=>r
   | .ok _=>true)))
def F50 (fuel:Nat) (i0:Int) (a1:TTrie) (a2:qk) (a3:List TEntry):Option (List TEntry) :=
  match fuel with
  | 0=>none
  | fuel + 1 =>
    (bif decide (i0 = (-1)) then
      some a3
    else
      (obind (getI a1.l i0) (fun x901 =>
        (bif x901.isf then
          (let c22:=F51 a2 x901.p
           (bif c22 then
             (bif decide (a3.length < 1099511627776) then
               (obind (F50 fuel x901.kids.e0 a1 a2 (a3 ++ ([(⟨x901.p,x901.v⟩ : TEntry)]:List TEntry))) (fun c46=>(obind (F50 fuel x901.kids.e1 a1 a2 c46) (fun c51=>some c51))))
             else none)
           else
             ((let c40:=F51 x901.p a2
               (bif c40 then
                 (obind (F50 fuel x901.kids.e0 a1 a2 a3) (fun c46=>(obind (F50 fuel x901.kids.e1 a1 a2 c46) (fun c51=>some c51))))
               else
                 some a3)))))
        else
          (let c35:=F51 a2 x901.p
           (bif c35 then
             (obind (F50 fuel x901.kids.e0 a1 a2 a3) (fun c46=>(obind (F50 fuel x901.kids.e1 a1 a2 c46) (fun c51=>some c51))))
           else
             (let c40:=F51 x901.p a2
              (bif c40 then
                (obind (F50 fuel x901.kids.e0 a1 a2 a3) (fun c46=>(obind (F50 fuel x901.kids.e1 a1 a2 c46) (fun c51=>some c51))))
              else
                some a3))))))))
def F34 (t0:TTrie) (p1:qk):Option (List TEntry) :=
  (let c11:=F28 p1
   (bif c11 then
     (obind (F50 100 t0.root t0 p1 ([]:List TEntry)) (fun c20=>some c20))
   else
     some ([]:List TEntry)))
def F22 (t0:TTrie):Option (List TEntry) :=
  (obind (F34 t0 (⟨0,0⟩ : qk)) (fun c5=>some c5))
def F10l2  : (set10:Int) → (box_2_1x:Int) → (box_3_1x:Int) → (map5x:QMap Int) → (row6x:List TGroup) → (row7x:List TNode) → (row8x:List Int) → List qj → Option (Int × Int × Int × (QMap Int) × (List TGroup) × (List TNode) × (List Int))
  | set10,box_2_1x,box_3_1x,map5x,row6x,row7x,row8x,[]=>some (set10,box_2_1x,box_3_1x,map5x,row6x,row7x,row8x)
  | set10,box_2_1x,box_3_1x,map5x,row6x,row7x,row8x,x52 :: l52=>((obind (F24 x52.Hops) (fun c61 =>
         ((obind (F23 (⟨(⟨row7x,row8x,box_2_1x,box_3_1x⟩ : TTrie),row6x,map5x⟩ : TFib) x52.P c61) (fun c62 =>
            (bif c62 then
              F10l2 set10 box_2_1x box_3_1x map5x row6x row7x row8x l52
            else
              ((obind (F16 (⟨(⟨row7x,row8x,box_2_1x,box_3_1x⟩ : TTrie),row6x,map5x⟩ : TFib) x52.P x52.Hops) (fun c70 =>
                 (bif decide (c70.1 = 0) then
                   F10l2 (IntKind.i64.wrap (set10 + 1)) c70.2.t.root c70.2.t.n c70.2.atf c70.2.sets c70.2.t.l c70.2.t.free l52
                 else
                   F10l2 set10 c70.2.t.root c70.2.t.n c70.2.atf c70.2.sets c70.2.t.l c70.2.t.free l52)))))))))))
def F10l4 (stays6:List (qk × Bool)):(out9:Int) → (box_2_1:Int) → (box_3_1:Int) → (map5:QMap Int) → (row6:List TGroup) → (row7:List TNode) → (row8:List Int) → List TEntry → Option (Int × Int × Int × (QMap Int) × (List TGroup) × (List TNode) × (List Int))
  | out9,box_2_1,box_3_1,map5,row6,row7,row8,[]=>some (out9,box_2_1,box_3_1,map5,row6,row7,row8)
  | out9,box_2_1,box_3_1,map5,row6,row7,row8,x34 :: l34=>(bif (findQ (fun (a b:qk)=>(decide (a.A = b.A) && (decide (a.N = b.N) && true))) stays6 x34.P).getD false then
        F10l4 stays6 out9 box_2_1 box_3_1 map5 row6 row7 row8 l34
      else
        (obind (F19 (⟨(⟨row7,row8,box_2_1,box_3_1⟩ : TTrie),row6,map5⟩ : TFib) x34.P) (fun c46=>F10l4 stays6 (IntKind.i64.wrap (out9 + 1)) c46.2.t.root c46.2.t.n c46.2.atf c46.2.sets c46.2.t.l c46.2.t.free l34)))
def F10l5  : (stays6:List (qk × Bool)) → List qj → Option (List (qk × Bool))
  | stays6,[]=>some stays6
  | stays6,x20 :: l20=>F10l5 (setQ (fun (a b:qk)=>(decide (a.A = b.A) && (decide (a.N = b.N) && true))) stays6 x20.P true) l20
def F10 (f0:TFib) (l1:List qj):Option (Int × Int × TFib) :=
  (obind (F10l5 ([]:List (qk × Bool)) l1) (fun acc20=>(obind (F22 f0.t) (fun c32=>(obind (F10l4 acc20 0 f0.t.root f0.t.n f0.atf f0.sets f0.t.l f0.t.free c32) (fun acc34=>(obind (F10l2 0 acc34.2.1 acc34.2.2.1 acc34.2.2.2.1 acc34.2.2.2.2.1 acc34.2.2.2.2.2.1 acc34.2.2.2.2.2.2 l1) (fun acc52=>some (acc34.1,acc52.1,(⟨(⟨acc52.2.2.2.2.2.1,acc52.2.2.2.2.2.2,acc52.2.1,acc52.2.2.1⟩ : TTrie),acc52.2.2.2.2.1,acc52.2.2.2.1⟩ : TFib))))))))))
def F12 (f0:TFib):Option (List TEntry) :=
  (obind (F22 f0.t) (fun c9=>some c9))
def F13l1 (b1:List THop):(i5:Nat) → List THop → Option (Except Bool Unit)
  | i5,[]=>some (.ok ())
  | i5,x5 :: l5=>(obind (getI b1 (i5:Int)) (fun x904=>(bif decide (x5.Iface = x904.Iface) && (decide (x5.Gate = x904.Gate) && true) then F13l1 b1 (i5 + 1) l5 else some (.error (false)))))
def F13 (a0:List THop) (b1:List THop):Option Bool :=
  (bif decide ((a0.length:Int) = (b1.length:Int)) then
    (oexc (F13l1 b1 0 a0) (fun r=>some r) (fun acc5=>some true))
  else
    some false)
def F14l1  : (out3:List THop) → List THop → Option (List THop)
  | out3,[]=>some out3
  | out3,x4 :: l4=>(bif decide (out3.length < 1099511627776) then
        F14l1 (out3 ++ ([x4]:List THop)) l4
      else none)
def F14 (l0:List THop):Option (List THop) :=
  (obind (F14l1 ([]:List THop) l0) (fun acc4=>some acc4))
def F18l1 (p1:qk):List TEntry → Option (Except (List THop) Unit)
  | []=>some (.ok ())
  | x7 :: l7=>(bif decide (p1.N < x7.P.N) then
        (let c34:=F9 x7.P p1.A
         (bif c34 then some (.error (([]:List THop))) else F18l1 p1 l7))
      else
        F18l1 p1 l7)
def F18 (f0:TFib) (p1:qk) (l2:List TEntry):Option (List THop) :=
  (oexc (F18l1 p1 l2) (fun r=>some r) (fun acc7=>(obind (F11 f0 p1.A) (fun c40=>some c40.2.1))))
def F4l4  : (box_2_1x:Int) → (box_3_1x:Int) → (row2x:List TNode) → (row3x:List Int) → (row4x:List TGroup) → (map5x:QMap Int) → List TEntry → Option (Except Bool (Int × Int × (List TNode) × (List Int) × (List TGroup) × (QMap Int)))
  | box_2_1x,box_3_1x,row2x,row3x,row4x,map5x,[]=>some (.ok (box_2_1x,box_3_1x,row2x,row3x,row4x,map5x))
  | box_2_1x,box_3_1x,row2x,row3x,row4x,map5x,x10 :: l10=>((obind (F19 (⟨(⟨row2x,row3x,box_2_1x,box_3_1x⟩ : TTrie),row4x,map5x⟩ : TFib) x10.P) (fun c133 =>
         (bif c133.1 then
           F4l4 c133.2.t.root c133.2.t.n c133.2.t.l c133.2.t.free c133.2.sets c133.2.atf l10
         else
           some (.error (false))))))
def F4l5 (box_2_1:Int) (box_3_1:Int) (row2:List TNode) (row3:List Int) (row4:List TGroup) (map5:QMap Int) (c61:List TEntry) (i6:Nat) (x6:TEntry) (fuel7:Nat) (i7:Int):Option (Except Bool Unit) :=
  bif decide (i7 < (i6:Int)) then
    match fuel7 with
    | 0=>some (.ok ())
    | fuel7 + 1=>((obind (F18 (⟨(⟨row2,row3,box_2_1,box_3_1⟩ : TTrie),row4,map5⟩ : TFib) x6.P c61) (fun c85 =>
           (obind (getI c61 i7) (fun x999 =>
             ((obind (F18 (⟨(⟨row2,row3,box_2_1,box_3_1⟩ : TTrie),row4,map5⟩ : TFib) x999.P c61) (fun c93 =>
                (bif decide (0 < (c85.length:Int)) then
                  (bif decide (0 < (c93.length:Int)) then
                    (obind (F14 c85) (fun c115=>(obind (F14 c93) (fun c117=>(obind (F13 c115 c117) (fun c118=>(bif (decide (x6.V = x999.V)) == c118 then F4l5 box_2_1 box_3_1 row2 row3 row4 map5 c61 i6 x6 fuel7 (IntKind.i64.wrap (i7 + 1)) else some (.error (false)))))))))
                  else
                    F4l5 box_2_1 box_3_1 row2 row3 row4 map5 c61 i6 x6 fuel7 (IntKind.i64.wrap (i7 + 1)))
                else
                  F4l5 box_2_1 box_3_1 row2 row3 row4 map5 c61 i6 x6 fuel7 (IntKind.i64.wrap (i7 + 1)))))))))))
  else some (.ok ())
theorem F4l5_u (box_2_1:Int) (box_3_1:Int) (row2:List TNode) (row3:List Int) (row4:List TGroup) (map5:QMap Int) (c61:List TEntry) (i6:Nat) (x6:TEntry) (fuel7:Nat) (i7:Int):F4l5 box_2_1 box_3_1 row2 row3 row4 map5 c61 i6 x6 fuel7 i7 = (bif decide (i7 < (i6:Int)) then
    match fuel7 with
    | 0=>some (.ok ())
    | fuel7 + 1=>((obind (F18 (⟨(⟨row2,row3,box_2_1,box_3_1⟩ : TTrie),row4,map5⟩ : TFib) x6.P c61) (fun c85 =>
           (obind (getI c61 i7) (fun x999 =>
             ((obind (F18 (⟨(⟨row2,row3,box_2_1,box_3_1⟩ : TTrie),row4,map5⟩ : TFib) x999.P c61) (fun c93 =>
                (bif decide (0 < (c85.length:Int)) then
                  (bif decide (0 < (c93.length:Int)) then
                    (obind (F14 c85) (fun c115=>(obind (F14 c93) (fun c117=>(obind (F13 c115 c117) (fun c118=>(bif (decide (x6.V = x999.V)) == c118 then F4l5 box_2_1 box_3_1 row2 row3 row4 map5 c61 i6 x6 fuel7 (IntKind.i64.wrap (i7 + 1)) else some (.error (false)))))))))
                  else
                    F4l5 box_2_1 box_3_1 row2 row3 row4 map5 c61 i6 x6 fuel7 (IntKind.i64.wrap (i7 + 1)))
                else
                  F4l5 box_2_1 box_3_1 row2 row3 row4 map5 c61 i6 x6 fuel7 (IntKind.i64.wrap (i7 + 1)))))))))))
  else some (.ok ())):=by cases fuel7 <;> rfl
def F4l6 (box_2_1:Int) (box_3_1:Int) (row2:List TNode) (row3:List Int) (row4:List TGroup) (map5:QMap Int) (c61:List TEntry):(i6:Nat) → List TEntry → Option (Except Bool Unit)
  | i6,[]=>some (.ok ())
  | i6,x6 :: l6=>(oexc (F4l5 box_2_1 box_3_1 row2 row3 row4 map5 c61 i6 x6 (fuelUp 0 (i6:Int)) 0) (fun r=>some (.error r)) (fun acc7=>F4l6 box_2_1 box_3_1 row2 row3 row4 map5 c61 (i6 + 1) l6))
def F4l7  : (box_2_1:Int) → (box_3_1:Int) → (row2:List TNode) → (row3:List Int) → (row4:List TGroup) → (map5:QMap Int) → (i4:Nat) → List TAct → Option (Int × Int × (List TNode) × (List Int) × (List TGroup) × (QMap Int))
  | box_2_1,box_3_1,row2,row3,row4,map5,i4,[]=>some (box_2_1,box_3_1,row2,row3,row4,map5)
  | box_2_1,box_3_1,row2,row3,row4,map5,i4,x4 :: l4=>(bif decide ((i4:Int) < 60) then
        ((obind (F6 x4) (fun c28 =>
           (bif c28 then
             (obind (F16 (⟨(⟨row2,row3,box_2_1,box_3_1⟩ : TTrie),row4,map5⟩ : TFib) x4.P x4.Hops) (fun c40=>(obind (F10 c40.2 x4.L) (fun c47=>(obind (F16 c47.2.2 x4.P x4.Hops) (fun c59=>F4l7 c59.2.t.root c59.2.t.n c59.2.t.l c59.2.t.free c59.2.sets c59.2.atf (i4 + 1) l4))))))
           else
             F4l7 box_2_1 box_3_1 row2 row3 row4 map5 (i4 + 1) l4))))
      else
        some (box_2_1,box_3_1,row2,row3,row4,map5))
def F4 (script0:List TAct):Option Bool :=
  (let c11:=F5
   (obind (F4l7 c11.t.root c11.t.n c11.t.l c11.t.free c11.sets c11.atf 0 script0) (fun acc4=>((obind (F12 (⟨(⟨acc4.2.2.1,acc4.2.2.2.1,acc4.1,acc4.2.1⟩ : TTrie),acc4.2.2.2.2.1,acc4.2.2.2.2.2⟩ : TFib)) (fun c61 =>
        ((obind (F17 (⟨(⟨acc4.2.2.1,acc4.2.2.2.1,acc4.1,acc4.2.1⟩ : TTrie),acc4.2.2.2.2.1,acc4.2.2.2.2.2⟩ : TFib)) (fun c63 =>
           (bif decide ((c61.length:Int) < c63) then
             some false
           else
             (oexc (F4l6 acc4.1 acc4.2.1 acc4.2.2.1 acc4.2.2.2.1 acc4.2.2.2.2.1 acc4.2.2.2.2.2 c61 0 c61) (fun r=>some r) (fun acc6=>(oexc (F4l4 acc4.1 acc4.2.1 acc4.2.2.1 acc4.2.2.2.1 acc4.2.2.2.2.1 acc4.2.2.2.2.2 c61) (fun r=>some r) (fun acc10=>((obind (F7) (fun c135 =>
                    (bif c135 then
                      ((obind (F17 (⟨(⟨acc10.2.2.1,acc10.2.2.2.1,acc10.1,acc10.2.1⟩ : TTrie),acc10.2.2.2.2.1,acc10.2.2.2.2.2⟩ : TFib)) (fun c138 =>
                         (bif decide (c138 = 0) then
                           (obind (F12 (⟨(⟨acc10.2.2.1,acc10.2.2.2.1,acc10.1,acc10.2.1⟩ : TTrie),acc10.2.2.2.2.1,acc10.2.2.2.2.2⟩ : TFib)) (fun c143=>some (decide ((c143.length:Int) = 0))))
                         else
                           some false))))
                    else
                      some false))))))))))))))))))
end Go.Proofs.YtakallenldpkiaaGreatDoor.Abs
