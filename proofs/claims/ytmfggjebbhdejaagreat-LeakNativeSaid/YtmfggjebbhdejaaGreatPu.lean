/- The functions of the program as Lean functions (printed by this work's own program gen.py). -/
import Derived.Test.YtmfggjebbhdejaaGreatP0
set_option linter.unusedVariables false
set_option maxRecDepth 100000
namespace Go.Proofs.YtmfggjebbhdejaaGreat.Abs
open Go
structure zy where
  A:Int
  N:Int
  deriving DecidableEq,Inhabited
structure THop where
  Iface:Int
  Gate:Int
  deriving DecidableEq,Inhabited
structure qj where
  P:zy
  Proto:Int
  Inst:Int
  Dist:Int
  Metric:Int
  Tag:Int
  Leaked:Bool
  From:Int
  Hops:List THop
  deriving DecidableEq,Inhabited
structure zv where
  Seq:Int
  Permit:Bool
  P:zy
  Ge:Int
  Le:Int
  deriving DecidableEq,Inhabited
structure zx where
  Seq:Int
  Permit:Bool
  Listf:List zv
  MKind:Int
  MLow:Int
  MHigh:Int
  MTags:List Int
  SCost:Int
  SPlus:Int
  SKind:Int
  SetTag:Bool
  STag:Int
  deriving DecidableEq,Inhabited
structure TAct where
  Kind:Int
  At:Int
  To:Int
  C:qj
  Map:List zx
  deriving DecidableEq,Inhabited
structure qk where
  L:List qj
  deriving DecidableEq,Inhabited
structure zz where
  From:Int
  To:Int
  Map:List zx
  deriving DecidableEq,Inhabited
structure zw where
  At:Int
  P:zy
  deriving DecidableEq,Inhabited
structure TNet where
  T:List qk
  Sel:List (List qj)
  L:List zz
  Work:List zw
  Over:Bool
  deriving DecidableEq,Inhabited
structure zq where
  P:zy
  Kind:Int
  Cost:Int
  Tag:Int
  deriving DecidableEq,Inhabited
structure TS where
  e0:Int
  e1:Int
  e2:Int
  e3:Int
  e4:Int
  e5:Int
  deriving DecidableEq,Inhabited
structure TS2 where
  e0:List Int
  e1:List Int
  deriving DecidableEq,Inhabited
def F11 (n0:Int):Option (TNet × Int) :=
  (bif decide (n0 < 1) then
    some ((⟨([]:List qk),([]:List (List qj)),([]:List zz),([]:List zw),false⟩ : TNet),1)
  else
    (bif decide (6 < n0) then
      some ((⟨([]:List qk),([]:List (List qj)),([]:List zz),([]:List zw),false⟩ : TNet),1)
    else
      (bif decide ((0:Int) ≤ n0) then
        (bif decide (n0 < 1099511627776) then
          some ((⟨(List.replicate n0.toNat ((⟨([]:List qj)⟩ : qk):qk)),(List.replicate n0.toNat (([]:List qj):List qj)),([]:List zz),([]:List zw),false⟩ : TNet),0)
        else none)
      else none)))
def F13l1  : List zx → Option (Except Bool Unit)
  | []=>some (.ok ())
  | x3 :: l3=>(bif decide (8 < (x3.Listf.length:Int)) then
        some (.error (false))
      else
        (bif decide (8 < (x3.MTags.length:Int)) then some (.error (false)) else F13l1 l3))
def F13 (a0:TAct):Option Bool :=
  (bif decide (20 < (a0.C.Hops.length:Int)) then
    some false
  else
    (bif decide (8 < (a0.Map.length:Int)) then
      some false
    else
      (oexc (F13l1 a0.Map) (fun r=>some r) (fun acc3=>some true))))
def F41 (n0:TNet):Option TNet :=
  (bif decide ((0:Int) ≤ (n0.T.length:Int)) then
    (bif decide ((n0.T.length:Int) < 1099511627776) then
      (bif decide ((0:Int) ≤ (n0.Sel.length:Int)) then
        (bif decide ((n0.Sel.length:Int) < 1099511627776) then
          (bif decide (n0.L.length < 1099511627776) then
            (bif decide (n0.Work.length < 1099511627776) then
              (bif decide (0 < ((List.replicate n0.T.length ((⟨([]:List qj)⟩ : qk):qk)).length:Int)) then
                (bif decide (0 < ((List.replicate n0.Sel.length (([]:List qj):List qj)).length:Int)) then
                  some (⟨(cpy_ (List.replicate n0.T.length ((⟨([]:List qj)⟩ : qk):qk)) n0.T),(cpy_ (List.replicate n0.Sel.length (([]:List qj):List qj)) n0.Sel),n0.L,n0.Work,n0.Over⟩ : TNet)
                else none)
              else none)
            else none)
          else none)
        else none)
      else none)
    else none)
  else none)
def F64 (n0:TNet) (at1:Int):Option Bool :=
  (bif decide (0 ≤ at1) then some (decide (at1 < (n0.T.length:Int))) else some false)
def F138 (n0:Int) (low1:Int) (high2:Int):Bool :=
  ((decide (low1 ≤ n0)) && (decide (n0 ≤ high2)))
def F151 (n0:Int):Bool :=
  ((decide (0 ≤ n0)) && (decide (n0 ≤ 32)))
def F152 (n0:Int):Int :=
  IntKind.u32.wrap (shl_ .u64 4294967295 (IntKind.i64.wrap (32 - (min_ (max_ n0 0) 32))))
def F124 (p0:zy):Bool :=
  (let c5:=F151 p0.N
   (c5 && (let c11:=F152 p0.N
    decide (bit_andNot .u32 p0.A c11 = 0))))
def F161 (x0:zv):Bool :=
  (bif decide (x0.Seq < 1) then
    false
  else
    (bif decide (65535 < x0.Seq) then
      false
    else
      (let c16:=F124 x0.P
       (c16 && (bif decide (x0.Ge = 0) then
         ((decide (x0.Le = 0)) || ((decide (max_ x0.Ge x0.P.N ≤ x0.Le)) && (decide (x0.Le ≤ 32))))
       else
         ((decide (x0.P.N < x0.Ge)) && (bif decide (x0.Le = 0) then
           decide (x0.Ge ≤ 32)
         else
           ((decide (max_ x0.Ge x0.P.N ≤ x0.Le)) && ((decide (x0.Ge ≤ 32)) && (decide (x0.Le ≤ 32)))))))))))
def F160 (x0:zv):Bool :=
  (let c4:=F161 x0
   !c4)
def F168l1 (hf1:zv → Bool):(i8:Nat) → List zv → Except Int Unit
  | i8,[]=>.ok ()
  | i8,x8 :: l8=>(let c16:=hf1 x8
       (bif c16 then .error ((i8:Int)) else F168l1 hf1 (i8 + 1) l8))
def F168 (s0:List zv) (hf1:zv → Bool):Int :=
  (match F168l1 hf1 0 s0 with
  | .error r=>r
  | .ok _=>(-1))
def F162 (s0:List zv) (hf1:zv → Bool):Bool :=
  (let c7:=F168 s0 hf1
   decide (0 ≤ c7))
def F163l1 (l0:List zv) (hnumber1:zv → Int):(i8:Nat) → List zv → Except Bool Unit
  | i8,[]=>.ok ()
  | i8,x8 :: l8=>(bif decide (0 < (i8:Int)) then
        (let c19:=hnumber1 x8
         (let c26:=hnumber1 (⟨(l0.getD (i8 - 1) default).Seq,(l0.getD (i8 - 1) default).Permit,((l0.getD (i8 - 1) default).P),(l0.getD (i8 - 1) default).Ge,(l0.getD (i8 - 1) default).Le⟩ : zv)
          (bif decide (c19 ≤ c26) then .error (false) else F163l1 l0 hnumber1 (i8 + 1) l8)))
      else
        F163l1 l0 hnumber1 (i8 + 1) l8)
def F163 (l0:List zv) (hnumber1:zv → Int):Bool :=
  (match F163l1 l0 hnumber1 0 l0 with
  | .error r=>r
  | .ok _=>true)
def F164 (x0:zv):Int :=
  x0.Seq
def F139 (l0:List zv):Bool :=
  (let c6:=F162 l0 (fun y0=>F160 y0)
   (bif c6 then false else F163 l0 (fun y0=>F164 y0)))
def F99 (x0:zx):Bool :=
  (let c7:=F138 x0.MKind (-1) 9
   (bif c7 then
     (let c13:=F138 x0.MLow 0 x0.MHigh
      (bif c13 then
        (let c22:=F138 x0.SCost (-1) 16777215
         (bif c22 then
           (let c26:=F138 x0.SPlus 0 16777215
            (bif c26 then
              (let c31:=F138 x0.SKind (-1) 9
               (let c35:=F138 x0.Seq 1 65535
                (c35 && ((decide (x0.MHigh ≤ 16777215)) && (c31 && (F139 x0.Listf))))))
            else
              (let c35:=F138 x0.Seq 1 65535
               false)))
         else
           (let c35:=F138 x0.Seq 1 65535
            false)))
      else
        (let c22:=F138 x0.SCost (-1) 16777215
         (bif c22 then
           (let c26:=F138 x0.SPlus 0 16777215
            (bif c26 then
              (let c31:=F138 x0.SKind (-1) 9
               (let c35:=F138 x0.Seq 1 65535
                false))
            else
              (let c35:=F138 x0.Seq 1 65535
               false)))
         else
           (let c35:=F138 x0.Seq 1 65535
            false)))))
   else
     (let c22:=F138 x0.SCost (-1) 16777215
      (bif c22 then
        (let c26:=F138 x0.SPlus 0 16777215
         (bif c26 then
           (let c31:=F138 x0.SKind (-1) 9
            (let c35:=F138 x0.Seq 1 65535
             false))
         else
           (let c35:=F138 x0.Seq 1 65535
            false)))
      else
        (let c35:=F138 x0.Seq 1 65535
         false)))))
def F98 (x0:zx):Bool :=
  (let c4:=F99 x0
   !c4)
def F119l1 (hf1:zx → Bool):(i8:Nat) → List zx → Except Int Unit
  | i8,[]=>.ok ()
  | i8,x8 :: l8=>(let c16:=hf1 x8
       (bif c16 then .error ((i8:Int)) else F119l1 hf1 (i8 + 1) l8))
def F119 (s0:List zx) (hf1:zx → Bool):Int :=
  (match F119l1 hf1 0 s0 with
  | .error r=>r
  | .ok _=>(-1))
def F100 (s0:List zx) (hf1:zx → Bool):Bool :=
  (let c7:=F119 s0 hf1
   decide (0 ≤ c7))
def F101l1 (l0:List zx) (hnumber1:zx → Int):(i8:Nat) → List zx → Except Bool Unit
  | i8,[]=>.ok ()
  | i8,x8 :: l8=>(bif decide (0 < (i8:Int)) then
        (let c19:=hnumber1 x8
         (let c26:=hnumber1 (l0.getD (i8 - 1) default)
          (bif decide (c19 ≤ c26) then .error (false) else F101l1 l0 hnumber1 (i8 + 1) l8)))
      else
        F101l1 l0 hnumber1 (i8 + 1) l8)
def F101 (l0:List zx) (hnumber1:zx → Int):Bool :=
  (match F101l1 l0 hnumber1 0 l0 with
  | .error r=>r
  | .ok _=>true)
def F102 (x0:zx):Int :=
  x0.Seq
def F65 (m0:List zx):Bool :=
  (let c6:=F100 m0 (fun y0=>F98 y0)
   (bif c6 then false else F101 m0 (fun y0=>F102 y0)))
def F103l1 (hf1:zz → Bool):(i8:Nat) → List zz → Except Int Unit
  | i8,[]=>.ok ()
  | i8,x8 :: l8=>(let c16:=hf1 x8
       (bif c16 then .error ((i8:Int)) else F103l1 hf1 (i8 + 1) l8))
def F103 (s0:List zz) (hf1:zz → Bool):Int :=
  (match F103l1 hf1 0 s0 with
  | .error r=>r
  | .ok _=>(-1))
def F66 (s0:List zz) (hf1:zz → Bool):Bool :=
  (let c7:=F103 s0 hf1
   decide (0 ≤ c7))
def F67 (x0:zz) (a1:Int) (a2:Int):Bool :=
  ((decide (x0.From = a1)) && (decide (x0.To = a2)))
def F104l1 (x0:List zw) (target1:zw) (hcmp2:zw → zw → Int) (fuel0:Nat) (i9:Int) (j10:Int):Option (Int × Int) :=
  match fuel0 with
  | 0=>none
  | fuel0 + 1=>(bif decide (i9 < j10) then
        (obind (getI x0 (IntKind.i64.wrap (Int.fdiv (IntKind.u64.wrap (IntKind.i64.wrap (i9 + j10))) (2 ^ 1)))) (fun x917 =>
          (let c30:=hcmp2 x917 target1
           (bif decide (c30 < 0) then
             F104l1 x0 target1 hcmp2 fuel0 (IntKind.i64.wrap ((IntKind.i64.wrap (Int.fdiv (IntKind.u64.wrap (IntKind.i64.wrap (i9 + j10))) (2 ^ 1))) + 1)) j10
           else
             F104l1 x0 target1 hcmp2 fuel0 i9 (IntKind.i64.wrap (Int.fdiv (IntKind.u64.wrap (IntKind.i64.wrap (i9 + j10))) (2 ^ 1)))))))
      else
        some (i9,j10))
def F104 (x0:List zw) (target1:zw) (hcmp2:zw → zw → Int):Option (Int × Bool) :=
  (obind (F104l1 x0 target1 hcmp2 100 0 (x0.length:Int)) (fun acc0=>(bif decide (acc0.1 < (x0.length:Int)) then
      (obind (getI x0 acc0.1) (fun x915 =>
        (let c46:=hcmp2 x915 target1
         some (acc0.1,decide (c46 = 0)))))
    else
      some (acc0.1,false))))
def F125l1  : List Int → Except Int Unit
  | []=>.ok ()
  | x8 :: l8=>(bif decide (x8 = 0) then F125l1 l8 else .error (x8))
def F125 (vals0:List Int):Int :=
  (match F125l1 vals0 with
  | .error r=>r
  | .ok _=>0)
def F153 (x0:Int):Bool :=
  !decide (x0 = x0)
def F126 (x0:Int) (y1:Int):Int :=
  (let c8:=F153 x0
   (let c10:=F153 y1
    (bif c8 then
      (bif c10 then 0 else (-1))
    else
      (bif c10 then 1 else (bif decide (x0 < y1) then (-1) else (bif decide (y1 < x0) then 1 else 0))))))
def F154 (x0:Int):Bool :=
  !decide (x0 = x0)
def F127 (x0:Int) (y1:Int):Int :=
  (let c8:=F154 x0
   (let c10:=F154 y1
    (bif c8 then
      (bif c10 then 0 else (-1))
    else
      (bif c10 then 1 else (bif decide (x0 < y1) then (-1) else (bif decide (y1 < x0) then 1 else 0))))))
def F105 (a0:zw) (b1:zw):Int :=
  (let c9:=F127 a0.At b1.At
   (let c16:=F126 a0.P.A b1.P.A
    (let c23:=F127 a0.P.N b1.P.N
     F125 ([c9,c16,c23]:List Int))))
def F68 (n0:TNet) (at1:Int) (p2:zy):Option TNet :=
  ((obind (F104 n0.Work (⟨at1,p2⟩ : zw) (fun y0 y1=>F105 y0 y1)) (fun c18 =>
     (bif c18.2 then
       some n0
     else
       (bif decide ((0:Int) ≤ c18.1) then
         (bif decide (c18.1 ≤ (n0.Work.length:Int)) then
           (bif decide (n0.Work.length < 1099511627776) then
             some (⟨n0.T,n0.Sel,n0.L,(ins_ n0.Work c18.1 ([(⟨at1,p2⟩ : zw)]:List zw)),n0.Over⟩ : TNet)
           else none)
         else none)
       else none)))))
def F25l1 (from1:Int):(k_2_10:List zz) → (k_4_10:Bool) → (row3:List qk) → (row4:List (List qj)) → (row5:List zw) → List qj → Option ((List zz) × Bool × (List qk) × (List (List qj)) × (List zw))
  | k_2_10,k_4_10,row3,row4,row5,[]=>some (k_2_10,k_4_10,row3,row4,row5)
  | k_2_10,k_4_10,row3,row4,row5,x63 :: l63=>(obind (F68 (⟨row3,row4,k_2_10,row5,k_4_10⟩ : TNet) from1 x63.P) (fun c71=>F25l1 from1 c71.L c71.Over c71.T c71.Sel c71.Work l63))
def F25 (n0:TNet) (from1:Int) (to2:Int) (m3:List zx):Option (TNet × Int) :=
  ((obind (F64 n0 from1) (fun c15 =>
     (bif c15 then
       ((obind (F64 n0 to2) (fun c20 =>
          (bif c20 then
            (bif decide (from1 = to2) then
              some (n0,1)
            else
              (let c30:=F65 m3
               (bif c30 then
                 (let c37:=F66 n0.L (fun y0=>F67 y0 from1 to2)
                  (bif c37 then
                    some (n0,7)
                  else
                    ((obind (F41 n0) (fun c40 =>
                       (bif decide (c40.L.length < 1099511627776) then
                         (obind (getI c40.T from1) (fun x907=>(obind (F25l1 from1 (c40.L ++ ([(⟨from1,to2,m3⟩ : zz)]:List zz)) c40.Over c40.T c40.Sel c40.Work x907.L) (fun acc63=>some ((⟨acc63.2.2.1,acc63.2.2.2.1,acc63.1,acc63.2.2.2.2,acc63.2.1⟩ : TNet),0)))))
                       else none))))))
               else
                 some (n0,1))))
          else
            some (n0,1)))))
     else
       some (n0,1)))))
def F123 (n0:Int) (low1:Int) (high2:Int):Bool :=
  ((decide (low1 ≤ n0)) && (decide (n0 ≤ high2)))
def F89 (c0:qj):Bool :=
  (let c7:=F123 c0.Dist 1 255
   (bif decide (c0.Proto = 0) then
     (let c16:=F123 c0.From 0 31
      (bif c16 then
        (bif c0.Leaked then
          (let c28:=F124 c0.P
           (c28 && (let c32:=F123 c0.Proto 0 5
            (c32 && (let c37:=F123 c0.Inst 0 99
             (c37 && ((decide (0 ≤ c0.Metric)) && ((decide (c0.Dist = 0)) && (F123 (c0.Hops.length:Int) 1 8)))))))))
        else
          (let c28:=F124 c0.P
           (c28 && (let c32:=F123 c0.Proto 0 5
            (c32 && (let c37:=F123 c0.Inst 0 99
             (c37 && ((decide (0 ≤ c0.Metric)) && ((decide (c0.Dist = 0)) && ((decide (c0.From = 0)) && (F123 (c0.Hops.length:Int) 1 8)))))))))))
      else
        (let c28:=F124 c0.P
         (c28 && (let c32:=F123 c0.Proto 0 5
          (c32 && (let c37:=F123 c0.Inst 0 99
           false)))))))
   else
     (let c16:=F123 c0.From 0 31
      (bif c16 then
        (bif c0.Leaked then
          (let c28:=F124 c0.P
           (c28 && (let c32:=F123 c0.Proto 0 5
            (c32 && (let c37:=F123 c0.Inst 0 99
             (c37 && ((decide (0 ≤ c0.Metric)) && (c7 && (F123 (c0.Hops.length:Int) 1 8)))))))))
        else
          (let c28:=F124 c0.P
           (c28 && (let c32:=F123 c0.Proto 0 5
            (c32 && (let c37:=F123 c0.Inst 0 99
             (c37 && ((decide (0 ≤ c0.Metric)) && (c7 && ((decide (c0.From = 0)) && (F123 (c0.Hops.length:Int) 1 8)))))))))))
      else
        (let c28:=F124 c0.P
         (c28 && (let c32:=F123 c0.Proto 0 5
          (c32 && (let c37:=F123 c0.Inst 0 99
           false)))))))))
def F90l1 (x0:List qj) (target1:qj) (hcmp2:qj → qj → Int) (fuel0:Nat) (i9:Int) (j10:Int):Option (Int × Int) :=
  match fuel0 with
  | 0=>none
  | fuel0 + 1=>(bif decide (i9 < j10) then
        (obind (getI x0 (IntKind.i64.wrap (Int.fdiv (IntKind.u64.wrap (IntKind.i64.wrap (i9 + j10))) (2 ^ 1)))) (fun x917 =>
          (let c30:=hcmp2 x917 target1
           (bif decide (c30 < 0) then
             F90l1 x0 target1 hcmp2 fuel0 (IntKind.i64.wrap ((IntKind.i64.wrap (Int.fdiv (IntKind.u64.wrap (IntKind.i64.wrap (i9 + j10))) (2 ^ 1))) + 1)) j10
           else
             F90l1 x0 target1 hcmp2 fuel0 i9 (IntKind.i64.wrap (Int.fdiv (IntKind.u64.wrap (IntKind.i64.wrap (i9 + j10))) (2 ^ 1)))))))
      else
        some (i9,j10))
def F90 (x0:List qj) (target1:qj) (hcmp2:qj → qj → Int):Option (Int × Bool) :=
  (obind (F90l1 x0 target1 hcmp2 100 0 (x0.length:Int)) (fun acc0=>(bif decide (acc0.1 < (x0.length:Int)) then
      (obind (getI x0 acc0.1) (fun x915 =>
        (let c46:=hcmp2 x915 target1
         some (acc0.1,decide (c46 = 0)))))
    else
      some (acc0.1,false))))
def F128 (c0:qj):Int :=
  (bif c0.Leaked then 1 else 0)
def F91 (a0:qj) (b1:qj):Int :=
  (let c11:=F126 a0.P.A b1.P.A
   (let c18:=F127 a0.P.N b1.P.N
    (let c20:=F128 a0
     (let c22:=F128 b1
      (let c28:=F127 a0.From b1.From
       (let c33:=F127 a0.Proto b1.Proto
        (let c38:=F127 a0.Inst b1.Inst
         F125 ([c11,c18,IntKind.i64.wrap (c20 - c22),c28,c33,c38]:List Int))))))))
def F48 (t0:qk) (c1:qj):Option (qk × Int) :=
  (let c10:=F89 c1
   (bif c10 then
     ((obind (F90 t0.L c1 (fun y0 y1=>F91 y0 y1)) (fun c17 =>
        (bif decide (t0.L.length < 1099511627776) then
          (bif c17.2 then
            (obind (getI t0.L c17.1) (fun x907=>some ((⟨(t0.L.set c17.1.toNat c1)⟩ : qk),0)))
          else
            (bif decide (500 ≤ (t0.L.length:Int)) then
              some (t0,8)
            else
              (bif decide ((0:Int) ≤ c17.1) then
                (bif decide (c17.1 ≤ (t0.L.length:Int)) then
                  some ((⟨(ins_ t0.L c17.1 ([c1]:List qj))⟩ : qk),0)
                else none)
              else none)))
        else none))))
   else
     some (t0,1)))
def F69l1 (at1:Int) (c3:qj):(k9:TNet) → List qj → Option TNet
  | k9,[]=>some k9
  | k9,x29 :: l29=>(bif decide (c3.Proto = 0) then
        (bif decide (x29.Proto = 1) then
          (bif x29.Leaked then
            F69l1 at1 c3 k9 l29
          else
            (obind (F68 k9 at1 x29.P) (fun c50=>F69l1 at1 c3 c50 l29)))
        else
          F69l1 at1 c3 k9 l29)
      else
        F69l1 at1 c3 k9 l29)
def F69 (n0:TNet) (at1:Int) (t2:qk) (c3:qj):Option TNet :=
  (obind (F41 n0) (fun c13=>(obind (getI c13.T at1) (fun x901=>(obind (F68 (⟨(c13.T.set at1.toNat t2),c13.Sel,c13.L,c13.Work,c13.Over⟩ : TNet) at1 c3.P) (fun c25=>(obind (F69l1 at1 c3 c25 t2.L) (fun acc29=>some acc29))))))))
def F27 (n0:TNet) (at1:Int) (c2:qj):Option (TNet × Int) :=
  ((obind (F64 n0 at1) (fun c12 =>
     (bif c12 then
       (bif c2.Leaked then
         some (n0,1)
       else
         (obind (getI n0.T at1) (fun x902 =>
           ((obind (F48 x902 c2) (fun c26 =>
              (bif decide (c26.2 = 0) then
                (obind (F69 n0 at1 c26.1 c2) (fun c37=>some (c37,0)))
              else
                some (n0,c26.2))))))))
     else
       some (n0,1)))))
def F115l1 (hf1:qj → Bool):(i8:Nat) → List qj → Except Int Unit
  | i8,[]=>.ok ()
  | i8,x8 :: l8=>(let c16:=hf1 x8
       (bif c16 then .error ((i8:Int)) else F115l1 hf1 (i8 + 1) l8))
def F115 (s0:List qj) (hf1:qj → Bool):Int :=
  (match F115l1 hf1 0 s0 with
  | .error r=>r
  | .ok _=>(-1))
def F84l1 (hdel1:qj → Bool) (fuel0:Nat) (i5:Int) (j6:Int) (s0x:List qj):Option (Int × Int × (List qj)) :=
  match fuel0 with
  | 0=>none
  | fuel0 + 1=>(bif decide (j6 < (s0x.length:Int)) then
        (obind (getI s0x j6) (fun x918 =>
          (let c28:=hdel1 x918
           (bif c28 then
             F84l1 hdel1 fuel0 i5 (IntKind.i64.wrap (j6 + 1)) s0x
           else
             (obind (getI s0x i5) (fun x920=>F84l1 hdel1 fuel0 (IntKind.i64.wrap (i5 + 1)) (IntKind.i64.wrap (j6 + 1)) (s0x.set i5.toNat x918)))))))
      else
        some (i5,j6,s0x))
def F84 (s0:List qj) (hdel1:qj → Bool):Option (List qj) :=
  (let c10:=F115 s0 hdel1
   (bif decide (c10 = (-1)) then
     some s0
   else
     (obind (F84l1 hdel1 1000 c10 (IntKind.i64.wrap (c10 + 1)) s0) (fun acc0=>(bif decide ((0:Int) ≤ acc0.1) then
         (bif decide (acc0.1 ≤ (acc0.2.2.length:Int)) then
           (bif decide ((acc0.1.toNat:Int) < (acc0.2.2.length:Int)) then
             (bif decide (acc0.1 ≤ ((acc0.2.2.take acc0.1.toNat ++ List.replicate (acc0.2.2.length - acc0.1.toNat) ((⟨(⟨0,0⟩ : zy),0,0,0,0,0,false,0,([]:List THop)⟩ : qj):qj)).length:Int)) then
               some ((acc0.2.2.take acc0.1.toNat ++ List.replicate (acc0.2.2.length - acc0.1.toNat) ((⟨(⟨0,0⟩ : zy),0,0,0,0,0,false,0,([]:List THop)⟩ : qj):qj)).take acc0.1.toNat)
             else none)
           else none)
         else none)
       else none)))))
def F42 (t0:qk) (hholds1:qj → Bool):Option qk :=
  (bif decide (t0.L.length < 1099511627776) then
    (obind (F84 t0.L hholds1) (fun c9=>some (⟨c9⟩ : qk)))
  else none)
def F176 (x0:zv):Int × Int :=
  (bif decide (x0.Ge = 0) then
    (bif decide (x0.Le = 0) then (x0.P.N,x0.P.N) else (x0.P.N,x0.Le))
  else
    (bif decide (x0.Le = 0) then (x0.Ge,32) else (x0.Ge,x0.Le)))
def F167 (p0:zy) (a1:Int):Bool :=
  (let c6:=F124 p0
   (c6 && (let c11:=F152 p0.N
    decide (bit_and .u32 a1 c11 = p0.A))))
def F177 (p0:zy) (q1:zy):Bool :=
  (let c6:=F124 q1
   (c6 && ((decide (p0.N ≤ q1.N)) && (F167 p0 q1.A))))
def F170 (x0:zv) (q1:zy):Bool :=
  (match F176 x0 with
   | (c9a,c9b)=>(let c13:=F161 x0
      (c13 && (let c18:=F177 x0.P q1
       (c18 && ((decide (c9a ≤ q1.N)) && (decide (q1.N ≤ c9b))))))))
def F169 (x0:zv) (a1:zy):Bool :=
  F170 x0 a1
def F149 (l0:List zv) (q1:zy):Bool × Int :=
  (let c9:=F168 l0 (fun y0=>F169 y0 q1)
   (bif decide (c9 < 0) then (false,0) else ((l0.getD c9.toNat default).Permit,(l0.getD c9.toNat default).Seq)))
def F171l1 (v1:Int):(i8:Nat) → List Int → Except Int Unit
  | i8,[]=>.ok ()
  | i8,x8 :: l8=>(bif decide (v1 = x8) then .error ((i8:Int)) else F171l1 v1 (i8 + 1) l8)
def F171 (s0:List Int) (v1:Int):Int :=
  (match F171l1 v1 0 s0 with
  | .error r=>r
  | .ok _=>(-1))
def F150 (s0:List Int) (v1:Int):Bool :=
  (let c7:=F171 s0 v1
   decide (0 ≤ c7))
def F121 (x0:zx) (t1:zq):Bool :=
  (bif decide (0 < (x0.Listf.length:Int)) then
    (match F149 x0.Listf t1.P with
     | (c17a,c17b)=>(bif decide (x0.MKind = (-1)) then
         (bif decide ((x0.MTags.length:Int) = 0) then
           (c17a && (F138 t1.Cost x0.MLow x0.MHigh))
         else
           (let c39:=F150 x0.MTags t1.Tag
            (c17a && (c39 && (F138 t1.Cost x0.MLow x0.MHigh)))))
       else
         (bif decide ((x0.MTags.length:Int) = 0) then
           (c17a && ((decide (x0.MKind = t1.Kind)) && (F138 t1.Cost x0.MLow x0.MHigh)))
         else
           (let c39:=F150 x0.MTags t1.Tag
            (c17a && ((decide (x0.MKind = t1.Kind)) && (c39 && (F138 t1.Cost x0.MLow x0.MHigh))))))))
  else
    (bif decide (x0.MKind = (-1)) then
      (bif decide ((x0.MTags.length:Int) = 0) then
        F138 t1.Cost x0.MLow x0.MHigh
      else
        (let c39:=F150 x0.MTags t1.Tag
         (c39 && (F138 t1.Cost x0.MLow x0.MHigh))))
    else
      (bif decide ((x0.MTags.length:Int) = 0) then
        ((decide (x0.MKind = t1.Kind)) && (F138 t1.Cost x0.MLow x0.MHigh))
      else
        (let c39:=F150 x0.MTags t1.Tag
         ((decide (x0.MKind = t1.Kind)) && (c39 && (F138 t1.Cost x0.MLow x0.MHigh)))))))
def F120 (x0:zx) (a1:zq):Bool :=
  F121 x0 a1
def F122 (x0:zx) (t1:zq):zq :=
  (bif decide (x0.SCost = (-1)) then
    (bif decide (x0.SKind = (-1)) then
      (bif x0.SetTag then
        (⟨t1.P,t1.Kind,min_ (IntKind.i64.wrap (t1.Cost + x0.SPlus)) 16777215,x0.STag⟩ : zq)
      else
        (⟨t1.P,t1.Kind,min_ (IntKind.i64.wrap (t1.Cost + x0.SPlus)) 16777215,t1.Tag⟩ : zq))
    else
      (bif x0.SetTag then
        (⟨t1.P,x0.SKind,min_ (IntKind.i64.wrap (t1.Cost + x0.SPlus)) 16777215,x0.STag⟩ : zq)
      else
        (⟨t1.P,x0.SKind,min_ (IntKind.i64.wrap (t1.Cost + x0.SPlus)) 16777215,t1.Tag⟩ : zq)))
  else
    (bif decide (x0.SKind = (-1)) then
      (bif x0.SetTag then
        (⟨t1.P,t1.Kind,min_ (IntKind.i64.wrap (x0.SCost + x0.SPlus)) 16777215,x0.STag⟩ : zq)
      else
        (⟨t1.P,t1.Kind,min_ (IntKind.i64.wrap (x0.SCost + x0.SPlus)) 16777215,t1.Tag⟩ : zq))
    else
      (bif x0.SetTag then
        (⟨t1.P,x0.SKind,min_ (IntKind.i64.wrap (x0.SCost + x0.SPlus)) 16777215,x0.STag⟩ : zq)
      else
        (⟨t1.P,x0.SKind,min_ (IntKind.i64.wrap (x0.SCost + x0.SPlus)) 16777215,t1.Tag⟩ : zq))))
def F88 (m0:List zx) (t1:zq):zq × Bool × Int :=
  (let c10:=F119 m0 (fun y0=>F120 y0 t1)
   (bif decide (c10 < 0) then
     ((⟨(⟨0,0⟩ : zy),0,0,0⟩ : zq),false,0)
   else
     (bif (m0.getD c10.toNat default).Permit then
       (let c33:=F122 (m0.getD c10.toNat default) t1
        (c33,true,(m0.getD c10.toNat default).Seq))
     else
       ((⟨(⟨0,0⟩ : zy),0,0,0⟩ : zq),false,(m0.getD c10.toNat default).Seq))))
def F47 (x0:zz) (c1:qj):Option (qj × Bool) :=
  (match F88 x0.Map (⟨c1.P,c1.Proto,min_ c1.Metric 16777215,c1.Tag⟩ : zq) with
   | (c24a,c24b,c24c)=>(bif c1.Leaked then
       some ((⟨(⟨0,0⟩ : zy),0,0,0,0,0,false,0,([]:List THop)⟩ : qj),false)
     else
       (bif c24b then
         some ((⟨c1.P,c1.Proto,c1.Inst,c1.Dist,c1.Metric,c1.Tag,true,x0.From,c1.Hops⟩ : qj),true)
       else
         some ((⟨(⟨0,0⟩ : zy),0,0,0,0,0,false,0,([]:List THop)⟩ : qj),false))))
def F56l1 (s21:List qj) (heq2:qj → qj → Bool):(i17:Nat) → List qj → Except Bool Unit
  | i17,[]=>.ok ()
  | i17,x17 :: l17=>(let c29:=heq2 x17 (⟨((s21.getD i17 default).P),(s21.getD i17 default).Proto,(s21.getD i17 default).Inst,(s21.getD i17 default).Dist,(s21.getD i17 default).Metric,(s21.getD i17 default).Tag,(s21.getD i17 default).Leaked,(s21.getD i17 default).From,(s21.getD i17 default).Hops⟩ : qj)
       (bif c29 then F56l1 s21 heq2 (i17 + 1) l17 else .error (false)))
def F56 (s10:List qj) (s21:List qj) (heq2:qj → qj → Bool):Bool :=
  ((decide ((s10.length:Int) = (s21.length:Int))) && (match F56l1 s21 heq2 0 s10 with
  | .error r=>r
  | .ok _=>true))
def F97l1 (s21:List THop):(i13:Nat) → List THop → Except Bool Unit
  | i13,[]=>.ok ()
  | i13,x13 :: l13=>(bif decide (x13.Iface = (s21.getD i13 default).Iface) && (decide (x13.Gate = (s21.getD i13 default).Gate) && true) then F97l1 s21 (i13 + 1) l13 else .error (false))
def F97 (s10:List THop) (s21:List THop):Bool :=
  ((decide ((s10.length:Int) = (s21.length:Int))) && (match F97l1 s21 0 s10 with
  | .error r=>r
  | .ok _=>true))
def F57 (a0:qj) (b1:qj):Bool :=
  (let c11:=F97 a0.Hops b1.Hops
   ((decide (a0.P.A = b1.P.A) && (decide (a0.P.N = b1.P.N) && true)) && ((decide (a0.Proto = b1.Proto)) && ((decide (a0.Inst = b1.Inst)) && ((decide (a0.Dist = b1.Dist)) && ((decide (a0.Metric = b1.Metric)) && ((decide (a0.Tag = b1.Tag)) && ((a0.Leaked == b1.Leaked) && (c11 && (decide (a0.From = b1.From)))))))))))
def F148l1 (t0:qk) (h1:THop):(at6:Int) → (i16:Nat) → List qj → Option Int
  | at6,i16,[]=>some at6
  | at6,i16,x16 :: l16=>(bif decide (x16.Proto = 0) then
        (bif x16.Leaked then
          F148l1 t0 h1 at6 (i16 + 1) l16
        else
          (let c34:=F167 x16.P h1.Gate
           (bif c34 then
             (bif decide (at6 < 0) then
               F148l1 t0 h1 (i16:Int) (i16 + 1) l16
             else
               (obind (getI t0.L at6) (fun x917=>(bif decide (x917.P.N < x16.P.N) then F148l1 t0 h1 (i16:Int) (i16 + 1) l16 else F148l1 t0 h1 at6 (i16 + 1) l16))))
           else
             F148l1 t0 h1 at6 (i16 + 1) l16)))
      else
        F148l1 t0 h1 at6 (i16 + 1) l16)
def F148 (t0:qk) (h1:THop):Option (THop × Bool) :=
  (bif decide (h1.Gate = 0) then
    some (h1,true)
  else
    (obind (F148l1 t0 h1 (-1) 0 t0.L) (fun acc16=>(bif decide (acc16 < 0) then
        some ((⟨0,0⟩ : THop),false)
      else
        (obind (getI t0.L acc16) (fun x910=>(obind (getI x910.Hops 0) (fun x911=>some ((⟨x911.Iface,h1.Gate⟩ : THop),true)))))))))
def F117l1 (t0:qk):(hops6:List THop) → List THop → Option (List THop)
  | hops6,[]=>some hops6
  | hops6,x22 :: l22=>((obind (F148 t0 x22) (fun c29 =>
         (bif c29.2 then
           (bif decide (hops6.length < 1099511627776) then
             F117l1 t0 (hops6 ++ ([c29.1]:List THop)) l22
           else none)
         else
           F117l1 t0 hops6 l22))))
def F117 (t0:qk) (c1:qj):Option (qj × Bool) :=
  (bif decide (c1.Proto = 1) then
    (bif c1.Leaked then
      some (c1,true)
    else
      (obind (F117l1 t0 ([]:List THop) c1.Hops) (fun acc22=>(bif decide ((acc22.length:Int) = 0) then
          some ((⟨(⟨0,0⟩ : zy),0,0,0,0,0,false,0,([]:List THop)⟩ : qj),false)
        else
          some ((⟨c1.P,c1.Proto,c1.Inst,c1.Dist,c1.Metric,c1.Tag,c1.Leaked,c1.From,acc22⟩ : qj),true)))))
  else
    some (c1,true))
def F118 (a0:qj) (b1:qj):Int :=
  (let c9:=F127 a0.Dist b1.Dist
   (let c11:=F128 a0
    (let c13:=F128 b1
     (let c19:=F127 a0.Proto b1.Proto
      (let c24:=F127 a0.Metric b1.Metric
       (let c29:=F127 a0.Inst b1.Inst
        (let c34:=F127 a0.From b1.From
         F125 ([c9,IntKind.i64.wrap (c11 - c13),c19,c24,c29,c34]:List Int))))))))
def F87 (a0:qj) (b1:qj):Bool :=
  (let c7:=F118 a0 b1
   decide (c7 < 0))
def livesL (t:qk):List qj → Option (List qj)
  | []=>some []
  | c :: r=>(match F117 t c with
      | none=>none
      | some (x,ok)=>(match livesL t r with
        | none=>none
        | some l=>some (bif ok then x :: l else l)))
def F44  : (row1:List qj) → List qj → Option (List qj)
  | row1,[]=>some row1
  | row1,x52 :: l52=>(bif decide (IntKind.i64.wrap ((row1.length:Int) - 1) < 0) then
        (bif decide (row1.length < 1099511627776) then
          F44 (row1 ++ ([x52]:List qj)) l52
        else none)
      else
        (match getI row1 (IntKind.i64.wrap ((row1.length:Int) - 1)) with
        | none=>none
        | some x916 =>
          (bif decide (x916.P.A = x52.P.A) && (decide (x916.P.N = x52.P.N) && true) then
            (let c35:=F87 x52 x916
             (bif c35 then
               F44 (row1.set (IntKind.i64.wrap ((row1.length:Int) - 1)).toNat x52) l52
             else
               F44 row1 l52))
          else
            (bif decide (row1.length < 1099511627776) then
              F44 (row1 ++ ([x52]:List qj)) l52
            else none))))
def allO (t:qk):Option (List qj):=match livesL t t.L with
  | none=>none
  | some l=>F44 [] l
def F142 (c0:qj) (a1:zy):Bool :=
  (decide (c0.P.A = a1.A) && (decide (c0.P.N = a1.N) && true))
def F107 (t0:qk) (p1:zy):Option (qj × Bool) :=
  ((obind (allO t0) (fun c9 =>
     (let c12:=F115 c9 (fun y0=>F142 y0 p1)
      (bif decide (c12 < 0) then
        some ((⟨(⟨0,0⟩ : zy),0,0,0,0,0,false,0,([]:List THop)⟩ : qj),false)
      else
        (obind (getI c9 c12) (fun x901=>some (x901,true))))))))
def F143l1 (x0:List qj) (target1:zy) (hcmp2:qj → zy → Int) (fuel0:Nat) (i9:Int) (j10:Int):Option (Int × Int) :=
  match fuel0 with
  | 0=>none
  | fuel0 + 1=>(bif decide (i9 < j10) then
        (obind (getI x0 (IntKind.i64.wrap (Int.fdiv (IntKind.u64.wrap (IntKind.i64.wrap (i9 + j10))) (2 ^ 1)))) (fun x917 =>
          (let c30:=hcmp2 x917 target1
           (bif decide (c30 < 0) then
             F143l1 x0 target1 hcmp2 fuel0 (IntKind.i64.wrap ((IntKind.i64.wrap (Int.fdiv (IntKind.u64.wrap (IntKind.i64.wrap (i9 + j10))) (2 ^ 1))) + 1)) j10
           else
             F143l1 x0 target1 hcmp2 fuel0 i9 (IntKind.i64.wrap (Int.fdiv (IntKind.u64.wrap (IntKind.i64.wrap (i9 + j10))) (2 ^ 1)))))))
      else
        some (i9,j10))
def F143 (x0:List qj) (target1:zy) (hcmp2:qj → zy → Int):Option (Int × Bool) :=
  (obind (F143l1 x0 target1 hcmp2 100 0 (x0.length:Int)) (fun acc0=>(bif decide (acc0.1 < (x0.length:Int)) then
      (obind (getI x0 acc0.1) (fun x915 =>
        (let c46:=hcmp2 x915 target1
         some (acc0.1,decide (c46 = 0)))))
    else
      some (acc0.1,false))))
def F144 (x0:qj) (p1:zy):Int :=
  (let c10:=F126 x0.P.A p1.A
   (let c16:=F127 x0.P.N p1.N
    F125 ([c10,c16]:List Int)))
def F108 (l0:List qj) (p1:zy) (c2:qj) (is3:Bool):Option (List qj) :=
  ((obind (F143 l0 p1 (fun y0 y1=>F144 y0 y1)) (fun c14 =>
     (bif decide (l0.length < 1099511627776) then
       (bif c14.2 then
         (bif is3 then
           (obind (getI l0 c14.1) (fun x910=>some (l0.set c14.1.toNat c2)))
         else
           (bif decide ((0:Int) ≤ c14.1) then
             (bif decide (c14.1 ≤ IntKind.i64.wrap (c14.1 + 1)) then
               (bif decide (IntKind.i64.wrap (c14.1 + 1) ≤ (l0.length:Int)) then
                 some (del_ l0 c14.1 (IntKind.i64.wrap (c14.1 + 1)))
               else none)
             else none)
           else none))
       else
         (bif is3 then
           (bif decide ((0:Int) ≤ c14.1) then
             (bif decide (c14.1 ≤ (l0.length:Int)) then
               some (ins_ l0 c14.1 ([c2]:List qj))
             else none)
           else none)
         else
           some l0))
     else none))))
def F46 (c0:qj) (from1:Int):Bool :=
  (c0.Leaked && (decide (c0.From = from1)))
def F109 (c0:qj) (a1:Int) (a2:zy):Bool :=
  (let c7:=F46 c0 a1
   (c7 && (decide (c0.P.A = a2.A) && (decide (c0.P.N = a2.N) && true))))
def F71l1 (at1:Int) (p2:zy) (c24:qj × Bool):(is7:Bool) → (n0x:TNet) → List zz → Option (Bool × TNet)
  | is7,n0x,[]=>some (is7,n0x)
  | is7,n0x,x49 :: l49=>(bif decide (x49.From = at1) then
        (obind (getI n0x.T x49.To) (fun x934 =>
          ((obind (F42 x934 (fun y0=>F109 y0 at1 p2)) (fun c66 =>
             ((obind (F47 x49 c24.1) (fun c70 =>
                (bif c70.2 then
                  (bif is7 then
                    ((obind (F48 c66 c70.1) (fun c80 =>
                       (bif n0x.Over then
                         (let c106:=F56 c80.1.L x934.L (fun y0 y1=>F57 y0 y1)
                          (bif c106 then
                            F71l1 at1 p2 c24 true (⟨n0x.T,n0x.Sel,n0x.L,n0x.Work,true⟩ : TNet) l49
                          else
                            (obind (F68 (⟨(n0x.T.set x49.To.toNat c80.1),n0x.Sel,n0x.L,n0x.Work,true⟩ : TNet) x49.To p2) (fun c120=>F71l1 at1 p2 c24 true c120 l49))))
                       else
                         (let c106:=F56 c80.1.L x934.L (fun y0 y1=>F57 y0 y1)
                          (bif c106 then
                            F71l1 at1 p2 c24 true (⟨n0x.T,n0x.Sel,n0x.L,n0x.Work,!decide (c80.2 = 0)⟩ : TNet) l49
                          else
                            (obind (F68 (⟨(n0x.T.set x49.To.toNat c80.1),n0x.Sel,n0x.L,n0x.Work,!decide (c80.2 = 0)⟩ : TNet) x49.To p2) (fun c120=>F71l1 at1 p2 c24 true c120 l49))))))))
                  else
                    (let c106:=F56 c66.L x934.L (fun y0 y1=>F57 y0 y1)
                     (bif c106 then
                       F71l1 at1 p2 c24 false n0x l49
                     else
                       (obind (F68 (⟨(n0x.T.set x49.To.toNat c66),n0x.Sel,n0x.L,n0x.Work,n0x.Over⟩ : TNet) x49.To p2) (fun c120=>F71l1 at1 p2 c24 false c120 l49)))))
                else
                  (let c106:=F56 c66.L x934.L (fun y0 y1=>F57 y0 y1)
                   (bif c106 then
                     F71l1 at1 p2 c24 is7 n0x l49
                   else
                     (obind (F68 (⟨(n0x.T.set x49.To.toNat c66),n0x.Sel,n0x.L,n0x.Work,n0x.Over⟩ : TNet) x49.To p2) (fun c120=>F71l1 at1 p2 c24 is7 c120 l49)))))))))))))
      else
        F71l1 at1 p2 c24 is7 n0x l49)
def F71 (n0:TNet) (at1:Int) (p2:zy):Option TNet :=
  (obind (getI n0.T at1) (fun x900=>(obind (F107 x900 p2) (fun c24=>(obind (getI n0.Sel at1) (fun x901=>(obind (F108 x901 p2 c24.1 c24.2) (fun c42=>(obind (F71l1 at1 p2 c24 c24.2 (⟨n0.T,(n0.Sel.set at1.toNat c42),n0.L,n0.Work,n0.Over⟩ : TNet) n0.L) (fun acc49=>some acc49.2))))))))))
def F28 (n0:TNet) (i1:Int):Option (TNet × Bool) :=
  (bif decide ((n0.Work.length:Int) = 0) then
    some (n0,false)
  else
    ((obind (F41 n0) (fun c15 =>
       (bif decide ((c15.Work.length:Int) ≠ 0) then
         (obind (getI c15.Work (Int.tmod (max_ i1 0) (c15.Work.length:Int))) (fun x903 =>
           (bif decide ((0:Int) ≤ (Int.tmod (max_ i1 0) (c15.Work.length:Int))) then
             (bif decide ((Int.tmod (max_ i1 0) (c15.Work.length:Int)) ≤ IntKind.i64.wrap ((Int.tmod (max_ i1 0) (c15.Work.length:Int)) + 1)) then
               (bif decide (IntKind.i64.wrap ((Int.tmod (max_ i1 0) (c15.Work.length:Int)) + 1) ≤ (c15.Work.length:Int)) then
                 (bif decide (c15.Work.length < 1099511627776) then
                   (obind (F71 (⟨c15.T,c15.Sel,c15.L,(del_ c15.Work (Int.tmod (max_ i1 0) (c15.Work.length:Int)) (IntKind.i64.wrap ((Int.tmod (max_ i1 0) (c15.Work.length:Int)) + 1))),c15.Over⟩ : TNet) x903.At x903.P) (fun c47=>some (c47,true)))
                 else none)
               else none)
             else none)
           else none)))
       else none)))))
def F74 (t0:qk) (c1:qj):Option (qk × Bool) :=
  ((obind (F90 t0.L c1 (fun y0 y1=>F91 y0 y1)) (fun c12 =>
     (bif c12.2 then
       (bif decide (t0.L.length < 1099511627776) then
         (bif decide ((0:Int) ≤ c12.1) then
           (bif decide (c12.1 ≤ IntKind.i64.wrap (c12.1 + 1)) then
             (bif decide (IntKind.i64.wrap (c12.1 + 1) ≤ (t0.L.length:Int)) then
               some ((⟨(del_ t0.L c12.1 (IntKind.i64.wrap (c12.1 + 1)))⟩ : qk),true)
             else none)
           else none)
         else none)
       else none)
     else
       some (t0,false)))))
def F31 (n0:TNet) (at1:Int) (c2:qj):Option (TNet × Int) :=
  ((obind (F64 n0 at1) (fun c12 =>
     (bif c12 then
       (bif c2.Leaked then
         some (n0,1)
       else
         (obind (getI n0.T at1) (fun x902 =>
           ((obind (F74 x902 c2) (fun c26 =>
              (bif c26.2 then
                (obind (F69 n0 at1 c26.1 c2) (fun c36=>some (c36,0)))
              else
                some (n0,6))))))))
     else
       some (n0,1)))))
def F76 (c0:qj) (a1:zz):Bool :=
  F46 c0 a1.From
def F32l1 (x902:zz):(k_2_7:List zz) → (k_4_7:Bool) → (row3:List qk) → (row4:List (List qj)) → (row5:List zw) → List qj → Option ((List zz) × Bool × (List qk) × (List (List qj)) × (List zw))
  | k_2_7,k_4_7,row3,row4,row5,[]=>some (k_2_7,k_4_7,row3,row4,row5)
  | k_2_7,k_4_7,row3,row4,row5,x48 :: l48=>(let c55:=F46 x48 x902.From
       (bif c55 then
         (obind (F68 (⟨row3,row4,k_2_7,row5,k_4_7⟩ : TNet) x902.To x48.P) (fun c61=>F32l1 x902 c61.L c61.Over c61.T c61.Sel c61.Work l48))
       else
         F32l1 x902 k_2_7 k_4_7 row3 row4 row5 l48))
def F32 (n0:TNet) (i1:Int):Option (TNet × Int) :=
  (bif decide (i1 < 0) then
    some (n0,6)
  else
    (bif decide ((n0.L.length:Int) ≤ i1) then
      some (n0,6)
    else
      (obind (getI n0.L i1) (fun x902 =>
        ((obind (F41 n0) (fun c26 =>
           (bif decide ((0:Int) ≤ i1) then
             (bif decide (i1 ≤ IntKind.i64.wrap (i1 + 1)) then
               (bif decide (IntKind.i64.wrap (i1 + 1) ≤ (c26.L.length:Int)) then
                 (bif decide (c26.L.length < 1099511627776) then
                   (obind (getI c26.T x902.To) (fun x908=>(obind (F32l1 x902 (del_ c26.L i1 (IntKind.i64.wrap (i1 + 1))) c26.Over c26.T c26.Sel c26.Work x908.L) (fun acc48=>(obind (getI acc48.2.2.1 x902.To) (fun x922=>(obind (F42 x922 (fun y0=>F76 y0 x902)) (fun c78=>some ((⟨(acc48.2.2.1.set x902.To.toNat c78),acc48.2.2.2.1,acc48.1,acc48.2.2.2.2,acc48.2.1⟩ : TNet),0)))))))))
                 else none)
               else none)
             else none)
           else none))))))))
def F14 (n0:TNet) (a1:TAct):Option (TNet × Int) :=
  (bif decide (a1.Kind = 1) then
    (obind (F27 n0 a1.At a1.C) (fun c17=>some (c17.1,c17.2)))
  else
    (bif decide (a1.Kind = 2) then
      (obind (F31 n0 a1.At a1.C) (fun c27=>some (c27.1,c27.2)))
    else
      (bif decide (a1.Kind = 3) then
        (obind (F25 n0 a1.At a1.To a1.Map) (fun c39=>some (c39.1,c39.2)))
      else
        (bif decide (a1.Kind = 4) then
          (obind (F32 n0 a1.At) (fun c47=>some (c47.1,c47.2)))
        else
          (obind (F28 n0 a1.To) (fun c54=>some (c54.1,0)))))))
def F7l1  : (n6:TNet) → (i8:Nat) → List TAct → Option TNet
  | n6,i8,[]=>some n6
  | n6,i8,x8 :: l8=>(bif decide ((i8:Int) < 30) then
        ((obind (F13 x8) (fun c34 =>
           (bif c34 then
             (obind (F14 n6 x8) (fun c41=>F7l1 c41.1 (i8 + 1) l8))
           else
             F7l1 n6 (i8 + 1) l8))))
      else
        some n6)
def F7 (size0:Int) (script1:List TAct):Option (TNet × Bool) :=
  ((obind (F11 size0) (fun c13 =>
     (bif decide (c13.2 = 0) then
       (obind (F7l1 c13.1 0 script1) (fun acc8=>some (acc8,decide (c13.2 = 0))))
     else
       some (c13.1,decide (c13.2 = 0))))))
def F9l1 (picks1:List Int) (fuel0:Nat) (many6:Int) (n2:TNet):Option (Except (TNet × Int) (Int × TNet)) :=
  match fuel0 with
  | 0=>none
  | fuel0 + 1=>(bif decide (many6 < (picks1.length:Int)) then
        (obind (getI picks1 many6) (fun x908=>(obind (F28 n2 x908) (fun c23=>(bif c23.2 then F9l1 picks1 fuel0 (IntKind.i64.wrap (many6 + 1)) c23.1 else some (.error ((n2,many6))))))))
      else
        (obind (F28 n2 0) (fun c23=>(bif c23.2 then F9l1 picks1 fuel0 (IntKind.i64.wrap (many6 + 1)) c23.1 else some (.error ((n2,many6)))))))
def F9 (n0:TNet) (picks1:List Int):Option (TNet × Int) :=
  (oexc (F9l1 picks1 100000 0 n0) (fun r=>some r) (fun acc0=>none))
def F26:Option (List zx) :=
  some ([(⟨1,true,([]:List zv),(-1),0,16777215,([]:List Int),(-1),0,(-1),false,0⟩ : zx)]:List zx)
def F8:Option Bool :=
  ((obind (F11 2) (fun c7 =>
     ((obind (F26) (fun c12 =>
        ((obind (F25 c7.1 0 1 c12) (fun c13 =>
           ((obind (F27 c13.1 0 (⟨(⟨0,0⟩ : zy),2,0,110,0,0,false,0,([(⟨1,0⟩ : THop)]:List THop)⟩ : qj)) (fun c21 =>
              ((obind (F9 c21.1 ([]:List Int)) (fun c26 =>
                 (bif decide (c7.2 = 0) then
                   (bif decide (c13.2 = 0) then
                     (bif decide (c21.2 = 0) then
                       (bif decide (c26.2 = 2) then
                         (bif decide ((c26.1.Sel.length:Int) = 2) then
                           (obind (getI c26.1.Sel 1) (fun x905=>(bif decide ((x905.length:Int) = 1) then (obind (getI x905 0) (fun x907=>some x907.Leaked)) else some false)))
                         else
                           some false)
                       else
                         some false)
                     else
                       some false)
                   else
                     some false)
                 else
                   some false))))))))))))))))
def F110 (is0:Bool):Int :=
  (bif is0 then 1 else 0)
def F72 (c0:qj):TS :=
  (let c12:=F110 c0.Leaked
   (⟨IntKind.i64.wrap c0.P.A,c0.P.N,c12,c0.From,c0.Proto,c0.Inst⟩ : TS))
def F73l1 (b1:List THop):(i5:Nat) → List THop → Except Bool Unit
  | i5,[]=>.ok ()
  | i5,x5 :: l5=>(bif decide (x5.Iface = (b1.getD i5 default).Iface) && (decide (x5.Gate = (b1.getD i5 default).Gate) && true) then F73l1 b1 (i5 + 1) l5 else .error (false))
def F73 (a0:List THop) (b1:List THop):Bool :=
  ((decide ((a0.length:Int) = (b1.length:Int))) && (match F73l1 b1 0 a0 with
  | .error r=>r
  | .ok _=>true))
def F29 (a0:qj) (b1:qj):Bool :=
  (let c6:=F72 a0
   (let c8:=F72 b1
    ((decide (c6.e0 = c8.e0) && (decide (c6.e1 = c8.e1) && (decide (c6.e2 = c8.e2) && (decide (c6.e3 = c8.e3) && (decide (c6.e4 = c8.e4) && (decide (c6.e5 = c8.e5) && true)))))) && ((decide (a0.Dist = b1.Dist)) && ((decide (a0.Metric = b1.Metric)) && ((decide (a0.Tag = b1.Tag)) && (F73 a0.Hops b1.Hops)))))))
def F30l1  : (h3:List THop) → List THop → Option (List THop)
  | h3,[]=>some h3
  | h3,x4 :: l4=>(bif decide (h3.length < 1099511627776) then
        F30l1 (h3 ++ ([x4]:List THop)) l4
      else none)
def F30 (c0:qj):Option qj :=
  (obind (F30l1 ([]:List THop) c0.Hops) (fun acc4=>some (⟨c0.P,c0.Proto,c0.Inst,c0.Dist,c0.Metric,c0.Tag,c0.Leaked,c0.From,acc4⟩ : qj)))
def F10l1 (c2:qj):List qj → Option (Except Bool Unit)
  | []=>some (.ok ())
  | x9 :: l9=>(bif (decide (x9.P.A = c2.P.A) && (decide (x9.P.N = c2.P.N) && true)) then
        (bif x9.Leaked then
          F10l1 c2 l9
        else
          ((obind (F30 (⟨x9.P,x9.Proto,x9.Inst,x9.Dist,x9.Metric,x9.Tag,true,c2.From,x9.Hops⟩ : qj)) (fun c90 =>
             ((obind (F30 c2) (fun c92 =>
                (let c93:=F29 c90 c92
                 some (.error (c93))))))))))
      else
        F10l1 c2 l9)
def F10l2 (at1:Int) (c2:qj):(linked7:Bool) → List zz → Option Bool
  | linked7,[]=>some linked7
  | linked7,x8 :: l8=>(bif linked7 then
        F10l2 at1 c2 true l8
      else
        (bif decide (x8.From = c2.From) then F10l2 at1 c2 (decide (x8.To = at1)) l8 else F10l2 at1 c2 false l8))
def F10 (n0:TNet) (at1:Int) (c2:qj):Option Bool :=
  (obind (F10l2 at1 c2 false n0.L) (fun acc8=>(bif acc8 then
      (bif decide (c2.From < 0) then
        some false
      else
        (bif decide ((n0.Sel.length:Int) ≤ c2.From) then
          some false
        else
          (obind (getI n0.Sel c2.From) (fun x909=>(oexc (F10l1 c2 x909) (fun r=>some r) (fun acc9=>some false))))))
    else
      some false)))
def F3l1 (c21:TNet × Int) (i7:Nat):List qj → Option (Except Bool Unit)
  | []=>some (.ok ())
  | x8 :: l8=>(bif x8.Leaked then
        (obind (F10 c21.1 (i7:Int) x8) (fun c57=>(bif c57 then F3l1 c21 i7 l8 else some (.error (false)))))
      else
        F3l1 c21 i7 l8)
def F3l2 (c21:TNet × Int):(i7:Nat) → List qk → Option (Except Bool Unit)
  | i7,[]=>some (.ok ())
  | i7,x7 :: l7=>(oexc (F3l1 c21 i7 x7.L) (fun r=>some (.error r)) (fun acc8=>F3l2 c21 (i7 + 1) l7))
def F3 (size0:Int) (script1:List TAct):Option Bool :=
  ((obind (F7 size0 script1) (fun c13 =>
     (bif c13.2 then
       (obind (F9 c13.1 ([]:List Int)) (fun c21=>(oexc (F3l2 c21 0 c21.1.T) (fun r=>some r) (fun acc7=>(obind (F8) (fun c60=>some c60))))))
     else
       (obind (F8) (fun c18=>some c18))))))
end Go.Proofs.YtmfggjebbhdejaaGreat.Abs
