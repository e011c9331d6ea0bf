/- A part of the proof: Pu, Code, A24. -/
import Derived.Test.YtmfggjebbhdejaaGreatProg
import Derived.KernelRfl
import Derived.Lib.Overlaps
import Derived.Test.YtmfggjebbhdejaaGreatG2
set_option linter.unusedVariables false
set_option maxRecDepth 100000
set_option linter.unusedSimpArgs false
namespace Go.Proofs.YtmfggjebbhdejaaGreat.Abs
open Go
structure zy where
  A:Int
  N:Int
  deriving DecidableEq,Inhabited
structure THop where
  Iface:Int
  Gate:Int
  deriving DecidableEq,Inhabited
structure qj where
  P:zy
  Proto:Int
  Inst:Int
  Dist:Int
  Metric:Int
  Tag:Int
  Leaked:Bool
  From:Int
  Hops:List THop
  deriving DecidableEq,Inhabited
structure zv where
  Seq:Int
  Permit:Bool
  P:zy
  Ge:Int
  Le:Int
  deriving DecidableEq,Inhabited
structure zx where
  Seq:Int
  Permit:Bool
  Listf:List zv
  MKind:Int
  MLow:Int
  MHigh:Int
  MTags:List Int
  SCost:Int
  SPlus:Int
  SKind:Int
  SetTag:Bool
  STag:Int
  deriving DecidableEq,Inhabited
structure TAct where
  Kind:Int
  At:Int
  To:Int
  C:qj
  Map:List zx
  deriving DecidableEq,Inhabited
structure TS where
  e0:List Int
  e1:List Int
  deriving DecidableEq,Inhabited
structure qk where
  L:List qj
  deriving DecidableEq,Inhabited
structure zz where
  From:Int
  To:Int
  Map:List zx
  deriving DecidableEq,Inhabited
structure zw where
  At:Int
  P:zy
  deriving DecidableEq,Inhabited
structure TNet where
  T:List qk
  Sel:List (List qj)
  L:List zz
  Work:List zw
  Over:Bool
  deriving DecidableEq,Inhabited
structure zq where
  P:zy
  Kind:Int
  Cost:Int
  Tag:Int
  deriving DecidableEq,Inhabited
structure TS2 where
  e0:Int
  e1:Int
  e2:Int
  e3:Int
  e4:Int
  e5:Int
  deriving DecidableEq,Inhabited
def F11 (n0:Int):Option (TNet × Int) :=
  (bif decide (n0 < 1) then
    some ((⟨([]:List qk),([]:List (List qj)),([]:List zz),([]:List zw),false⟩ : TNet),1)
  else
    (bif decide (6 < n0) then
      some ((⟨([]:List qk),([]:List (List qj)),([]:List zz),([]:List zw),false⟩ : TNet),1)
    else
      (bif decide ((0:Int) ≤ n0) then
        (bif decide (n0 < 1099511627776) then
          some ((⟨(List.replicate n0.toNat ((⟨([]:List qj)⟩ : qk):qk)),(List.replicate n0.toNat (([]:List qj):List qj)),([]:List zz),([]:List zw),false⟩ : TNet),0)
        else none)
      else none)))
def F13l1  : List zx → Option (Except Bool Unit)
  | []=>some (.ok ())
  | x3 :: l3=>(bif decide (8 < (x3.Listf.length:Int)) then
        some (.error (false))
      else
        (bif decide (8 < (x3.MTags.length:Int)) then some (.error (false)) else F13l1 l3))
def F13 (a0:TAct):Option Bool :=
  (bif decide (20 < (a0.C.Hops.length:Int)) then
    some false
  else
    (bif decide (8 < (a0.Map.length:Int)) then
      some false
    else
      (oexc (F13l1 a0.Map) (fun r=>some r) (fun acc3=>some true))))
def F41 (n0:TNet):Option TNet :=
  (bif decide ((0:Int) ≤ (n0.T.length:Int)) then
    (bif decide ((n0.T.length:Int) < 1099511627776) then
      (bif decide ((0:Int) ≤ (n0.Sel.length:Int)) then
        (bif decide ((n0.Sel.length:Int) < 1099511627776) then
          (bif decide (n0.L.length < 1099511627776) then
            (bif decide (n0.Work.length < 1099511627776) then
              (bif decide (0 < ((List.replicate n0.T.length ((⟨([]:List qj)⟩ : qk):qk)).length:Int)) then
                (bif decide (0 < ((List.replicate n0.Sel.length (([]:List qj):List qj)).length:Int)) then
                  some (⟨(gZ (List.replicate n0.T.length ((⟨([]:List qj)⟩ : qk):qk)) n0.T),(gZ (List.replicate n0.Sel.length (([]:List qj):List qj)) n0.Sel),n0.L,n0.Work,n0.Over⟩ : TNet)
                else none)
              else none)
            else none)
          else none)
        else none)
      else none)
    else none)
  else none)
def F64 (n0:TNet) (at1:Int):Option Bool :=
  (bif decide (0 ≤ at1) then some (decide (at1 < (n0.T.length:Int))) else some false)
def F138 (n0:Int) (low1:Int) (high2:Int):Bool :=
  ((decide (low1 ≤ n0)) && (decide (n0 ≤ high2)))
def F151 (n0:Int):Bool :=
  ((decide (0 ≤ n0)) && (decide (n0 ≤ 32)))
def F152 (n0:Int):Int :=
  IntKind.u32.wrap (shl_ .u64 4294967295 (IntKind.i64.wrap (32 - (min_ (max_ n0 0) 32))))
def F124 (p0:zy):Bool :=
  (let c5:=F151 p0.N
   (c5 && (let c11:=F152 p0.N
    decide (dQ .u32 p0.A c11 = 0))))
def F161 (x0:zv):Bool :=
  (bif decide (x0.Seq < 1) then
    false
  else
    (bif decide (65535 < x0.Seq) then
      false
    else
      (let c16:=F124 x0.P
       (c16 && (bif decide (x0.Ge = 0) then
         ((decide (x0.Le = 0)) || ((decide (max_ x0.Ge x0.P.N ≤ x0.Le)) && (decide (x0.Le ≤ 32))))
       else
         ((decide (x0.P.N < x0.Ge)) && (bif decide (x0.Le = 0) then
           decide (x0.Ge ≤ 32)
         else
           ((decide (max_ x0.Ge x0.P.N ≤ x0.Le)) && ((decide (x0.Ge ≤ 32)) && (decide (x0.Le ≤ 32)))))))))))
def F160 (x0:zv):Bool :=
  (let c4:=F161 x0
   !c4)
def F168l1 (hf1:zv → Bool):(i8:Nat) → List zv → Except Int Unit
  | i8,[]=>.ok ()
  | i8,x8 :: l8=>(let c16:=hf1 x8
       (bif c16 then .error ((i8:Int)) else F168l1 hf1 (i8 + 1) l8))
def F168 (s0:List zv) (hf1:zv → Bool):Int :=
  (match F168l1 hf1 0 s0 with
  | .error r=>r
  | .ok _=>(-1))
def F162 (s0:List zv) (hf1:zv → Bool):Bool :=
  (let c7:=F168 s0 hf1
   decide (0 ≤ c7))
def F163l1 (l0:List zv) (hnumber1:zv → Int):(i8:Nat) → List zv → Except Bool Unit
  | i8,[]=>.ok ()
  | i8,x8 :: l8=>(bif decide (0 < (i8:Int)) then
        (let c19:=hnumber1 x8
         (let c26:=hnumber1 (⟨(l0.getD (i8 - 1) default).Seq,(l0.getD (i8 - 1) default).Permit,((l0.getD (i8 - 1) default).P),(l0.getD (i8 - 1) default).Ge,(l0.getD (i8 - 1) default).Le⟩ : zv)
          (bif decide (c19 ≤ c26) then .error (false) else F163l1 l0 hnumber1 (i8 + 1) l8)))
      else
        F163l1 l0 hnumber1 (i8 + 1) l8)
def F163 (l0:List zv) (hnumber1:zv → Int):Bool :=
  (match F163l1 l0 hnumber1 0 l0 with
  | .error r=>r
  | .ok _=>true)
def F164 (x0:zv):Int :=
  x0.Seq
def F139 (l0:List zv):Bool :=
  (let c6:=F162 l0 (fun y0=>F160 y0)
   (bif c6 then false else F163 l0 (fun y0=>F164 y0)))
def F99 (x0:zx):Bool :=
  (let c7:=F138 x0.MKind (-1) 9
   (bif c7 then
     (let c13:=F138 x0.MLow 0 x0.MHigh
      (bif c13 then
        (let c22:=F138 x0.SCost (-1) 16777215
         (bif c22 then
           (let c26:=F138 x0.SPlus 0 16777215
            (bif c26 then
              (let c31:=F138 x0.SKind (-1) 9
               (let c35:=F138 x0.Seq 1 65535
                (c35 && ((decide (x0.MHigh ≤ 16777215)) && (c31 && (F139 x0.Listf))))))
            else
              (let c35:=F138 x0.Seq 1 65535
               false)))
         else
           (let c35:=F138 x0.Seq 1 65535
            false)))
      else
        (let c22:=F138 x0.SCost (-1) 16777215
         (bif c22 then
           (let c26:=F138 x0.SPlus 0 16777215
            (bif c26 then
              (let c31:=F138 x0.SKind (-1) 9
               (let c35:=F138 x0.Seq 1 65535
                false))
            else
              (let c35:=F138 x0.Seq 1 65535
               false)))
         else
           (let c35:=F138 x0.Seq 1 65535
            false)))))
   else
     (let c22:=F138 x0.SCost (-1) 16777215
      (bif c22 then
        (let c26:=F138 x0.SPlus 0 16777215
         (bif c26 then
           (let c31:=F138 x0.SKind (-1) 9
            (let c35:=F138 x0.Seq 1 65535
             false))
         else
           (let c35:=F138 x0.Seq 1 65535
            false)))
      else
        (let c35:=F138 x0.Seq 1 65535
         false)))))
def F98 (x0:zx):Bool :=
  (let c4:=F99 x0
   !c4)
def F119l1 (hf1:zx → Bool):(i8:Nat) → List zx → Except Int Unit
  | i8,[]=>.ok ()
  | i8,x8 :: l8=>(let c16:=hf1 x8
       (bif c16 then .error ((i8:Int)) else F119l1 hf1 (i8 + 1) l8))
def F119 (s0:List zx) (hf1:zx → Bool):Int :=
  (match F119l1 hf1 0 s0 with
  | .error r=>r
  | .ok _=>(-1))
def F100 (s0:List zx) (hf1:zx → Bool):Bool :=
  (let c7:=F119 s0 hf1
   decide (0 ≤ c7))
def F101l1 (l0:List zx) (hnumber1:zx → Int):(i8:Nat) → List zx → Except Bool Unit
  | i8,[]=>.ok ()
  | i8,x8 :: l8=>(bif decide (0 < (i8:Int)) then
        (let c19:=hnumber1 x8
         (let c26:=hnumber1 (l0.getD (i8 - 1) default)
          (bif decide (c19 ≤ c26) then .error (false) else F101l1 l0 hnumber1 (i8 + 1) l8)))
      else
        F101l1 l0 hnumber1 (i8 + 1) l8)
def F101 (l0:List zx) (hnumber1:zx → Int):Bool :=
  (match F101l1 l0 hnumber1 0 l0 with
  | .error r=>r
  | .ok _=>true)
def F102 (x0:zx):Int :=
  x0.Seq
def F65 (m0:List zx):Bool :=
  (let c6:=F100 m0 (fun y0=>F98 y0)
   (bif c6 then false else F101 m0 (fun y0=>F102 y0)))
def F103l1 (hf1:zz → Bool):(i8:Nat) → List zz → Except Int Unit
  | i8,[]=>.ok ()
  | i8,x8 :: l8=>(let c16:=hf1 x8
       (bif c16 then .error ((i8:Int)) else F103l1 hf1 (i8 + 1) l8))
def F103 (s0:List zz) (hf1:zz → Bool):Int :=
  (match F103l1 hf1 0 s0 with
  | .error r=>r
  | .ok _=>(-1))
def F66 (s0:List zz) (hf1:zz → Bool):Bool :=
  (let c7:=F103 s0 hf1
   decide (0 ≤ c7))
def F67 (x0:zz) (a1:Int) (a2:Int):Bool :=
  ((decide (x0.From = a1)) && (decide (x0.To = a2)))
def F104l1 (x0:List zw) (target1:zw) (hcmp2:zw → zw → Int) (fuel0:Nat) (i9:Int) (j10:Int):Option (Int × Int) :=
  match fuel0 with
  | 0=>none
  | fuel0 + 1=>(bif decide (i9 < j10) then
        (obind (getI x0 (IntKind.i64.wrap (Int.fdiv (IntKind.u64.wrap (IntKind.i64.wrap (i9 + j10))) (2 ^ 1)))) (fun x917 =>
          (let c30:=hcmp2 x917 target1
           (bif decide (c30 < 0) then
             F104l1 x0 target1 hcmp2 fuel0 (IntKind.i64.wrap ((IntKind.i64.wrap (Int.fdiv (IntKind.u64.wrap (IntKind.i64.wrap (i9 + j10))) (2 ^ 1))) + 1)) j10
           else
             F104l1 x0 target1 hcmp2 fuel0 i9 (IntKind.i64.wrap (Int.fdiv (IntKind.u64.wrap (IntKind.i64.wrap (i9 + j10))) (2 ^ 1)))))))
      else
        some (i9,j10))
def F104 (x0:List zw) (target1:zw) (hcmp2:zw → zw → Int):Option (Int × Bool) :=
  (obind (F104l1 x0 target1 hcmp2 100 0 (x0.length:Int)) (fun acc0=>(bif decide (acc0.1 < (x0.length:Int)) then
      (obind (getI x0 acc0.1) (fun x915 =>
        (let c46:=hcmp2 x915 target1
         some (acc0.1,decide (c46 = 0)))))
    else
      some (acc0.1,false))))
def F125l1  : List Int → Except Int Unit
  | []=>.ok ()
  | x8 :: l8=>(bif decide (x8 = 0) then F125l1 l8 else .error (x8))
def F125 (vals0:List Int):Int :=
  (match F125l1 vals0 with
  | .error r=>r
  | .ok _=>0)
def F153 (x0:Int):Bool :=
  !decide (x0 = x0)
def F126 (x0:Int) (y1:Int):Int :=
  (let c8:=F153 x0
   (let c10:=F153 y1
    (bif c8 then
      (bif c10 then 0 else (-1))
    else
      (bif c10 then 1 else (bif decide (x0 < y1) then (-1) else (bif decide (y1 < x0) then 1 else 0))))))
def F154 (x0:Int):Bool :=
  !decide (x0 = x0)
def F127 (x0:Int) (y1:Int):Int :=
  (let c8:=F154 x0
   (let c10:=F154 y1
    (bif c8 then
      (bif c10 then 0 else (-1))
    else
      (bif c10 then 1 else (bif decide (x0 < y1) then (-1) else (bif decide (y1 < x0) then 1 else 0))))))
def F105 (a0:zw) (b1:zw):Int :=
  (let c9:=F127 a0.At b1.At
   (let c16:=F126 a0.P.A b1.P.A
    (let c23:=F127 a0.P.N b1.P.N
     F125 ([c9,c16,c23]:List Int))))
def F68 (n0:TNet) (at1:Int) (p2:zy):Option TNet :=
  ((obind (F104 n0.Work (⟨at1,p2⟩ : zw) (fun y0 y1=>F105 y0 y1)) (fun c18 =>
     (bif c18.2 then
       some n0
     else
       (bif decide ((0:Int) ≤ c18.1) then
         (bif decide (c18.1 ≤ (n0.Work.length:Int)) then
           (bif decide (n0.Work.length < 1099511627776) then
             some (⟨n0.T,n0.Sel,n0.L,(db n0.Work c18.1 ([(⟨at1,p2⟩ : zw)]:List zw)),n0.Over⟩ : TNet)
           else none)
         else none)
       else none)))))
def F25l1 (from1:Int):(k_2_10:List zz) → (k_4_10:Bool) → (row3:List qk) → (row4:List (List qj)) → (row5:List zw) → List qj → Option ((List zz) × Bool × (List qk) × (List (List qj)) × (List zw))
  | k_2_10,k_4_10,row3,row4,row5,[]=>some (k_2_10,k_4_10,row3,row4,row5)
  | k_2_10,k_4_10,row3,row4,row5,x63 :: l63=>(obind (F68 (⟨row3,row4,k_2_10,row5,k_4_10⟩ : TNet) from1 x63.P) (fun c71=>F25l1 from1 c71.L c71.Over c71.T c71.Sel c71.Work l63))
def F25 (n0:TNet) (from1:Int) (to2:Int) (m3:List zx):Option (TNet × Int) :=
  ((obind (F64 n0 from1) (fun c15 =>
     (bif c15 then
       ((obind (F64 n0 to2) (fun c20 =>
          (bif c20 then
            (bif decide (from1 = to2) then
              some (n0,1)
            else
              (let c30:=F65 m3
               (bif c30 then
                 (let c37:=F66 n0.L (fun y0=>F67 y0 from1 to2)
                  (bif c37 then
                    some (n0,7)
                  else
                    ((obind (F41 n0) (fun c40 =>
                       (bif decide (c40.L.length < 1099511627776) then
                         (obind (getI c40.T from1) (fun x907=>(obind (F25l1 from1 (c40.L ++ ([(⟨from1,to2,m3⟩ : zz)]:List zz)) c40.Over c40.T c40.Sel c40.Work x907.L) (fun acc63=>some ((⟨acc63.2.2.1,acc63.2.2.2.1,acc63.1,acc63.2.2.2.2,acc63.2.1⟩ : TNet),0)))))
                       else none))))))
               else
                 some (n0,1))))
          else
            some (n0,1)))))
     else
       some (n0,1)))))
def F123 (n0:Int) (low1:Int) (high2:Int):Bool :=
  ((decide (low1 ≤ n0)) && (decide (n0 ≤ high2)))
def F89 (c0:qj):Bool :=
  (let c7:=F123 c0.Dist 1 255
   (bif decide (c0.Proto = 0) then
     (let c16:=F123 c0.From 0 31
      (bif c16 then
        (bif c0.Leaked then
          (let c28:=F124 c0.P
           (c28 && (let c32:=F123 c0.Proto 0 5
            (c32 && (let c37:=F123 c0.Inst 0 99
             (c37 && ((decide (0 ≤ c0.Metric)) && ((decide (c0.Dist = 0)) && (F123 (c0.Hops.length:Int) 1 8)))))))))
        else
          (let c28:=F124 c0.P
           (c28 && (let c32:=F123 c0.Proto 0 5
            (c32 && (let c37:=F123 c0.Inst 0 99
             (c37 && ((decide (0 ≤ c0.Metric)) && ((decide (c0.Dist = 0)) && ((decide (c0.From = 0)) && (F123 (c0.Hops.length:Int) 1 8)))))))))))
      else
        (let c28:=F124 c0.P
         (c28 && (let c32:=F123 c0.Proto 0 5
          (c32 && (let c37:=F123 c0.Inst 0 99
           false)))))))
   else
     (let c16:=F123 c0.From 0 31
      (bif c16 then
        (bif c0.Leaked then
          (let c28:=F124 c0.P
           (c28 && (let c32:=F123 c0.Proto 0 5
            (c32 && (let c37:=F123 c0.Inst 0 99
             (c37 && ((decide (0 ≤ c0.Metric)) && (c7 && (F123 (c0.Hops.length:Int) 1 8)))))))))
        else
          (let c28:=F124 c0.P
           (c28 && (let c32:=F123 c0.Proto 0 5
            (c32 && (let c37:=F123 c0.Inst 0 99
             (c37 && ((decide (0 ≤ c0.Metric)) && (c7 && ((decide (c0.From = 0)) && (F123 (c0.Hops.length:Int) 1 8)))))))))))
      else
        (let c28:=F124 c0.P
         (c28 && (let c32:=F123 c0.Proto 0 5
          (c32 && (let c37:=F123 c0.Inst 0 99
           false)))))))))
def F90l1 (x0:List qj) (target1:qj) (hcmp2:qj → qj → Int) (fuel0:Nat) (i9:Int) (j10:Int):Option (Int × Int) :=
  match fuel0 with
  | 0=>none
  | fuel0 + 1=>(bif decide (i9 < j10) then
        (obind (getI x0 (IntKind.i64.wrap (Int.fdiv (IntKind.u64.wrap (IntKind.i64.wrap (i9 + j10))) (2 ^ 1)))) (fun x917 =>
          (let c30:=hcmp2 x917 target1
           (bif decide (c30 < 0) then
             F90l1 x0 target1 hcmp2 fuel0 (IntKind.i64.wrap ((IntKind.i64.wrap (Int.fdiv (IntKind.u64.wrap (IntKind.i64.wrap (i9 + j10))) (2 ^ 1))) + 1)) j10
           else
             F90l1 x0 target1 hcmp2 fuel0 i9 (IntKind.i64.wrap (Int.fdiv (IntKind.u64.wrap (IntKind.i64.wrap (i9 + j10))) (2 ^ 1)))))))
      else
        some (i9,j10))
def F90 (x0:List qj) (target1:qj) (hcmp2:qj → qj → Int):Option (Int × Bool) :=
  (obind (F90l1 x0 target1 hcmp2 100 0 (x0.length:Int)) (fun acc0=>(bif decide (acc0.1 < (x0.length:Int)) then
      (obind (getI x0 acc0.1) (fun x915 =>
        (let c46:=hcmp2 x915 target1
         some (acc0.1,decide (c46 = 0)))))
    else
      some (acc0.1,false))))
def F128 (c0:qj):Int :=
  (bif c0.Leaked then 1 else 0)
def F91 (a0:qj) (b1:qj):Int :=
  (let c11:=F126 a0.P.A b1.P.A
   (let c18:=F127 a0.P.N b1.P.N
    (let c20:=F128 a0
     (let c22:=F128 b1
      (let c28:=F127 a0.From b1.From
       (let c33:=F127 a0.Proto b1.Proto
        (let c38:=F127 a0.Inst b1.Inst
         F125 ([c11,c18,IntKind.i64.wrap (c20 - c22),c28,c33,c38]:List Int))))))))
def F48 (t0:qk) (c1:qj):Option (qk × Int) :=
  (let c10:=F89 c1
   (bif c10 then
     ((obind (F90 t0.L c1 (fun y0 y1=>F91 y0 y1)) (fun c17 =>
        (bif decide (t0.L.length < 1099511627776) then
          (bif c17.2 then
            (obind (getI t0.L c17.1) (fun x907=>some ((⟨(t0.L.set c17.1.toNat c1)⟩ : qk),0)))
          else
            (bif decide (500 ≤ (t0.L.length:Int)) then
              some (t0,8)
            else
              (bif decide ((0:Int) ≤ c17.1) then
                (bif decide (c17.1 ≤ (t0.L.length:Int)) then
                  some ((⟨(db t0.L c17.1 ([c1]:List qj))⟩ : qk),0)
                else none)
              else none)))
        else none))))
   else
     some (t0,1)))
def F69l1 (at1:Int) (c3:qj):(k9:TNet) → List qj → Option TNet
  | k9,[]=>some k9
  | k9,x29 :: l29=>(bif decide (c3.Proto = 0) then
        (bif decide (x29.Proto = 1) then
          (bif x29.Leaked then
            F69l1 at1 c3 k9 l29
          else
            (obind (F68 k9 at1 x29.P) (fun c50=>F69l1 at1 c3 c50 l29)))
        else
          F69l1 at1 c3 k9 l29)
      else
        F69l1 at1 c3 k9 l29)
def F69 (n0:TNet) (at1:Int) (t2:qk) (c3:qj):Option TNet :=
  (obind (F41 n0) (fun c13=>(obind (getI c13.T at1) (fun x901=>(obind (F68 (⟨(c13.T.set at1.toNat t2),c13.Sel,c13.L,c13.Work,c13.Over⟩ : TNet) at1 c3.P) (fun c25=>(obind (F69l1 at1 c3 c25 t2.L) (fun acc29=>some acc29))))))))
def F27 (n0:TNet) (at1:Int) (c2:qj):Option (TNet × Int) :=
  ((obind (F64 n0 at1) (fun c12 =>
     (bif c12 then
       (bif c2.Leaked then
         some (n0,1)
       else
         (obind (getI n0.T at1) (fun x902 =>
           ((obind (F48 x902 c2) (fun c26 =>
              (bif decide (c26.2 = 0) then
                (obind (F69 n0 at1 c26.1 c2) (fun c37=>some (c37,0)))
              else
                some (n0,c26.2))))))))
     else
       some (n0,1)))))
def F115l1 (hf1:qj → Bool):(i8:Nat) → List qj → Except Int Unit
  | i8,[]=>.ok ()
  | i8,x8 :: l8=>(let c16:=hf1 x8
       (bif c16 then .error ((i8:Int)) else F115l1 hf1 (i8 + 1) l8))
def F115 (s0:List qj) (hf1:qj → Bool):Int :=
  (match F115l1 hf1 0 s0 with
  | .error r=>r
  | .ok _=>(-1))
def F84l1 (hdel1:qj → Bool) (fuel0:Nat) (i5:Int) (j6:Int) (s0x:List qj):Option (Int × Int × (List qj)) :=
  match fuel0 with
  | 0=>none
  | fuel0 + 1=>(bif decide (j6 < (s0x.length:Int)) then
        (obind (getI s0x j6) (fun x918 =>
          (let c28:=hdel1 x918
           (bif c28 then
             F84l1 hdel1 fuel0 i5 (IntKind.i64.wrap (j6 + 1)) s0x
           else
             (obind (getI s0x i5) (fun x920=>F84l1 hdel1 fuel0 (IntKind.i64.wrap (i5 + 1)) (IntKind.i64.wrap (j6 + 1)) (s0x.set i5.toNat x918)))))))
      else
        some (i5,j6,s0x))
def F84 (s0:List qj) (hdel1:qj → Bool):Option (List qj) :=
  (let c10:=F115 s0 hdel1
   (bif decide (c10 = (-1)) then
     some s0
   else
     (obind (F84l1 hdel1 1000 c10 (IntKind.i64.wrap (c10 + 1)) s0) (fun acc0=>(bif decide ((0:Int) ≤ acc0.1) then
         (bif decide (acc0.1 ≤ (acc0.2.2.length:Int)) then
           (bif decide ((acc0.1.toNat:Int) < (acc0.2.2.length:Int)) then
             (bif decide (acc0.1 ≤ ((acc0.2.2.take acc0.1.toNat ++ List.replicate (acc0.2.2.length - acc0.1.toNat) ((⟨(⟨0,0⟩ : zy),0,0,0,0,0,false,0,([]:List THop)⟩ : qj):qj)).length:Int)) then
               some ((acc0.2.2.take acc0.1.toNat ++ List.replicate (acc0.2.2.length - acc0.1.toNat) ((⟨(⟨0,0⟩ : zy),0,0,0,0,0,false,0,([]:List THop)⟩ : qj):qj)).take acc0.1.toNat)
             else none)
           else none)
         else none)
       else none)))))
def F42 (t0:qk) (hholds1:qj → Bool):Option qk :=
  (bif decide (t0.L.length < 1099511627776) then
    (obind (F84 t0.L hholds1) (fun c9=>some (⟨c9⟩ : qk)))
  else none)
def F176 (x0:zv):Int × Int :=
  (bif decide (x0.Ge = 0) then
    (bif decide (x0.Le = 0) then (x0.P.N,x0.P.N) else (x0.P.N,x0.Le))
  else
    (bif decide (x0.Le = 0) then (x0.Ge,32) else (x0.Ge,x0.Le)))
def F167 (p0:zy) (a1:Int):Bool :=
  (let c6:=F124 p0
   (c6 && (let c11:=F152 p0.N
    decide (gy .u32 a1 c11 = p0.A))))
def F177 (p0:zy) (q1:zy):Bool :=
  (let c6:=F124 q1
   (c6 && ((decide (p0.N ≤ q1.N)) && (F167 p0 q1.A))))
def F170 (x0:zv) (q1:zy):Bool :=
  (match F176 x0 with
   | (c9a,c9b)=>(let c13:=F161 x0
      (c13 && (let c18:=F177 x0.P q1
       (c18 && ((decide (c9a ≤ q1.N)) && (decide (q1.N ≤ c9b))))))))
def F169 (x0:zv) (a1:zy):Bool :=
  F170 x0 a1
def F149 (l0:List zv) (q1:zy):Bool × Int :=
  (let c9:=F168 l0 (fun y0=>F169 y0 q1)
   (bif decide (c9 < 0) then (false,0) else ((l0.getD c9.toNat default).Permit,(l0.getD c9.toNat default).Seq)))
def F171l1 (v1:Int):(i8:Nat) → List Int → Except Int Unit
  | i8,[]=>.ok ()
  | i8,x8 :: l8=>(bif decide (v1 = x8) then .error ((i8:Int)) else F171l1 v1 (i8 + 1) l8)
def F171 (s0:List Int) (v1:Int):Int :=
  (match F171l1 v1 0 s0 with
  | .error r=>r
  | .ok _=>(-1))
def F150 (s0:List Int) (v1:Int):Bool :=
  (let c7:=F171 s0 v1
   decide (0 ≤ c7))
def F121 (x0:zx) (t1:zq):Bool :=
  (bif decide (0 < (x0.Listf.length:Int)) then
    (match F149 x0.Listf t1.P with
     | (c17a,c17b)=>(bif decide (x0.MKind = (-1)) then
         (bif decide ((x0.MTags.length:Int) = 0) then
           (c17a && (F138 t1.Cost x0.MLow x0.MHigh))
         else
           (let c39:=F150 x0.MTags t1.Tag
            (c17a && (c39 && (F138 t1.Cost x0.MLow x0.MHigh)))))
       else
         (bif decide ((x0.MTags.length:Int) = 0) then
           (c17a && ((decide (x0.MKind = t1.Kind)) && (F138 t1.Cost x0.MLow x0.MHigh)))
         else
           (let c39:=F150 x0.MTags t1.Tag
            (c17a && ((decide (x0.MKind = t1.Kind)) && (c39 && (F138 t1.Cost x0.MLow x0.MHigh))))))))
  else
    (bif decide (x0.MKind = (-1)) then
      (bif decide ((x0.MTags.length:Int) = 0) then
        F138 t1.Cost x0.MLow x0.MHigh
      else
        (let c39:=F150 x0.MTags t1.Tag
         (c39 && (F138 t1.Cost x0.MLow x0.MHigh))))
    else
      (bif decide ((x0.MTags.length:Int) = 0) then
        ((decide (x0.MKind = t1.Kind)) && (F138 t1.Cost x0.MLow x0.MHigh))
      else
        (let c39:=F150 x0.MTags t1.Tag
         ((decide (x0.MKind = t1.Kind)) && (c39 && (F138 t1.Cost x0.MLow x0.MHigh)))))))
def F120 (x0:zx) (a1:zq):Bool :=
  F121 x0 a1
def F122 (x0:zx) (t1:zq):zq :=
  (bif decide (x0.SCost = (-1)) then
    (bif decide (x0.SKind = (-1)) then
      (bif x0.SetTag then
        (⟨t1.P,t1.Kind,min_ (IntKind.i64.wrap (t1.Cost + x0.SPlus)) 16777215,x0.STag⟩ : zq)
      else
        (⟨t1.P,t1.Kind,min_ (IntKind.i64.wrap (t1.Cost + x0.SPlus)) 16777215,t1.Tag⟩ : zq))
    else
      (bif x0.SetTag then
        (⟨t1.P,x0.SKind,min_ (IntKind.i64.wrap (t1.Cost + x0.SPlus)) 16777215,x0.STag⟩ : zq)
      else
        (⟨t1.P,x0.SKind,min_ (IntKind.i64.wrap (t1.Cost + x0.SPlus)) 16777215,t1.Tag⟩ : zq)))
  else
    (bif decide (x0.SKind = (-1)) then
      (bif x0.SetTag then
        (⟨t1.P,t1.Kind,min_ (IntKind.i64.wrap (x0.SCost + x0.SPlus)) 16777215,x0.STag⟩ : zq)
      else
        (⟨t1.P,t1.Kind,min_ (IntKind.i64.wrap (x0.SCost + x0.SPlus)) 16777215,t1.Tag⟩ : zq))
    else
      (bif x0.SetTag then
        (⟨t1.P,x0.SKind,min_ (IntKind.i64.wrap (x0.SCost + x0.SPlus)) 16777215,x0.STag⟩ : zq)
      else
        (⟨t1.P,x0.SKind,min_ (IntKind.i64.wrap (x0.SCost + x0.SPlus)) 16777215,t1.Tag⟩ : zq))))
def F88 (m0:List zx) (t1:zq):zq × Bool × Int :=
  (let c10:=F119 m0 (fun y0=>F120 y0 t1)
   (bif decide (c10 < 0) then
     ((⟨(⟨0,0⟩ : zy),0,0,0⟩ : zq),false,0)
   else
     (bif (m0.getD c10.toNat default).Permit then
       (let c33:=F122 (m0.getD c10.toNat default) t1
        (c33,true,(m0.getD c10.toNat default).Seq))
     else
       ((⟨(⟨0,0⟩ : zy),0,0,0⟩ : zq),false,(m0.getD c10.toNat default).Seq))))
def F47 (x0:zz) (c1:qj):Option (qj × Bool) :=
  (match F88 x0.Map (⟨c1.P,c1.Proto,min_ c1.Metric 16777215,c1.Tag⟩ : zq) with
   | (c24a,c24b,c24c)=>(bif c1.Leaked then
       some ((⟨(⟨0,0⟩ : zy),0,0,0,0,0,false,0,([]:List THop)⟩ : qj),false)
     else
       (bif c24b then
         some ((⟨c1.P,c1.Proto,c1.Inst,c1.Dist,c1.Metric,c1.Tag,true,x0.From,c1.Hops⟩ : qj),true)
       else
         some ((⟨(⟨0,0⟩ : zy),0,0,0,0,0,false,0,([]:List THop)⟩ : qj),false))))
def F56l1 (s21:List qj) (heq2:qj → qj → Bool):(i17:Nat) → List qj → Except Bool Unit
  | i17,[]=>.ok ()
  | i17,x17 :: l17=>(let c29:=heq2 x17 (⟨((s21.getD i17 default).P),(s21.getD i17 default).Proto,(s21.getD i17 default).Inst,(s21.getD i17 default).Dist,(s21.getD i17 default).Metric,(s21.getD i17 default).Tag,(s21.getD i17 default).Leaked,(s21.getD i17 default).From,(s21.getD i17 default).Hops⟩ : qj)
       (bif c29 then F56l1 s21 heq2 (i17 + 1) l17 else .error (false)))
def F56 (s10:List qj) (s21:List qj) (heq2:qj → qj → Bool):Bool :=
  ((decide ((s10.length:Int) = (s21.length:Int))) && (match F56l1 s21 heq2 0 s10 with
  | .error r=>r
  | .ok _=>true))
def F97l1 (s21:List THop):(i13:Nat) → List THop → Except Bool Unit
  | i13,[]=>.ok ()
  | i13,x13 :: l13=>(bif decide (x13.Iface = (s21.getD i13 default).Iface) && (decide (x13.Gate = (s21.getD i13 default).Gate) && true) then F97l1 s21 (i13 + 1) l13 else .error (false))
def F97 (s10:List THop) (s21:List THop):Bool :=
  ((decide ((s10.length:Int) = (s21.length:Int))) && (match F97l1 s21 0 s10 with
  | .error r=>r
  | .ok _=>true))
def F57 (a0:qj) (b1:qj):Bool :=
  (let c11:=F97 a0.Hops b1.Hops
   ((decide (a0.P.A = b1.P.A) && (decide (a0.P.N = b1.P.N) && true)) && ((decide (a0.Proto = b1.Proto)) && ((decide (a0.Inst = b1.Inst)) && ((decide (a0.Dist = b1.Dist)) && ((decide (a0.Metric = b1.Metric)) && ((decide (a0.Tag = b1.Tag)) && ((a0.Leaked == b1.Leaked) && (c11 && (decide (a0.From = b1.From)))))))))))
def F148l1 (t0:qk) (h1:THop):(at6:Int) → (i16:Nat) → List qj → Option Int
  | at6,i16,[]=>some at6
  | at6,i16,x16 :: l16=>(bif decide (x16.Proto = 0) then
        (bif x16.Leaked then
          F148l1 t0 h1 at6 (i16 + 1) l16
        else
          (let c34:=F167 x16.P h1.Gate
           (bif c34 then
             (bif decide (at6 < 0) then
               F148l1 t0 h1 (i16:Int) (i16 + 1) l16
             else
               (obind (getI t0.L at6) (fun x917=>(bif decide (x917.P.N < x16.P.N) then F148l1 t0 h1 (i16:Int) (i16 + 1) l16 else F148l1 t0 h1 at6 (i16 + 1) l16))))
           else
             F148l1 t0 h1 at6 (i16 + 1) l16)))
      else
        F148l1 t0 h1 at6 (i16 + 1) l16)
def F148 (t0:qk) (h1:THop):Option (THop × Bool) :=
  (bif decide (h1.Gate = 0) then
    some (h1,true)
  else
    (obind (F148l1 t0 h1 (-1) 0 t0.L) (fun acc16=>(bif decide (acc16 < 0) then
        some ((⟨0,0⟩ : THop),false)
      else
        (obind (getI t0.L acc16) (fun x910=>(obind (getI x910.Hops 0) (fun x911=>some ((⟨x911.Iface,h1.Gate⟩ : THop),true)))))))))
def F117l1 (t0:qk):(hops6:List THop) → List THop → Option (List THop)
  | hops6,[]=>some hops6
  | hops6,x22 :: l22=>((obind (F148 t0 x22) (fun c29 =>
         (bif c29.2 then
           (bif decide (hops6.length < 1099511627776) then
             F117l1 t0 (hops6 ++ ([c29.1]:List THop)) l22
           else none)
         else
           F117l1 t0 hops6 l22))))
def F117 (t0:qk) (c1:qj):Option (qj × Bool) :=
  (bif decide (c1.Proto = 1) then
    (bif c1.Leaked then
      some (c1,true)
    else
      (obind (F117l1 t0 ([]:List THop) c1.Hops) (fun acc22=>(bif decide ((acc22.length:Int) = 0) then
          some ((⟨(⟨0,0⟩ : zy),0,0,0,0,0,false,0,([]:List THop)⟩ : qj),false)
        else
          some ((⟨c1.P,c1.Proto,c1.Inst,c1.Dist,c1.Metric,c1.Tag,c1.Leaked,c1.From,acc22⟩ : qj),true)))))
  else
    some (c1,true))
def F118 (a0:qj) (b1:qj):Int :=
  (let c9:=F127 a0.Dist b1.Dist
   (let c11:=F128 a0
    (let c13:=F128 b1
     (let c19:=F127 a0.Proto b1.Proto
      (let c24:=F127 a0.Metric b1.Metric
       (let c29:=F127 a0.Inst b1.Inst
        (let c34:=F127 a0.From b1.From
         F125 ([c9,IntKind.i64.wrap (c11 - c13),c19,c24,c29,c34]:List Int))))))))
def F87 (a0:qj) (b1:qj):Bool :=
  (let c7:=F118 a0 b1
   decide (c7 < 0))
def livesL (t:qk):List qj → Option (List qj)
  | []=>some []
  | c :: r=>(match F117 t c with
      | none=>none
      | some (x,ok)=>(match livesL t r with
        | none=>none
        | some l=>some (bif ok then x :: l else l)))
def F44  : (row1:List qj) → List qj → Option (List qj)
  | row1,[]=>some row1
  | row1,x52 :: l52=>(bif decide (IntKind.i64.wrap ((row1.length:Int) - 1) < 0) then
        (bif decide (row1.length < 1099511627776) then
          F44 (row1 ++ ([x52]:List qj)) l52
        else none)
      else
        (match getI row1 (IntKind.i64.wrap ((row1.length:Int) - 1)) with
        | none=>none
        | some x916 =>
          (bif decide (x916.P.A = x52.P.A) && (decide (x916.P.N = x52.P.N) && true) then
            (let c35:=F87 x52 x916
             (bif c35 then
               F44 (row1.set (IntKind.i64.wrap ((row1.length:Int) - 1)).toNat x52) l52
             else
               F44 row1 l52))
          else
            (bif decide (row1.length < 1099511627776) then
              F44 (row1 ++ ([x52]:List qj)) l52
            else none))))
def allO (t:qk):Option (List qj):=match livesL t t.L with
  | none=>none
  | some l=>F44 [] l
def F142 (c0:qj) (a1:zy):Bool :=
  (decide (c0.P.A = a1.A) && (decide (c0.P.N = a1.N) && true))
def F107 (t0:qk) (p1:zy):Option (qj × Bool) :=
  ((obind (allO t0) (fun c9 =>
     (let c12:=F115 c9 (fun y0=>F142 y0 p1)
      (bif decide (c12 < 0) then
        some ((⟨(⟨0,0⟩ : zy),0,0,0,0,0,false,0,([]:List THop)⟩ : qj),false)
      else
        (obind (getI c9 c12) (fun x901=>some (x901,true))))))))
def F143l1 (x0:List qj) (target1:zy) (hcmp2:qj → zy → Int) (fuel0:Nat) (i9:Int) (j10:Int):Option (Int × Int) :=
  match fuel0 with
  | 0=>none
  | fuel0 + 1=>(bif decide (i9 < j10) then
        (obind (getI x0 (IntKind.i64.wrap (Int.fdiv (IntKind.u64.wrap (IntKind.i64.wrap (i9 + j10))) (2 ^ 1)))) (fun x917 =>
          (let c30:=hcmp2 x917 target1
           (bif decide (c30 < 0) then
             F143l1 x0 target1 hcmp2 fuel0 (IntKind.i64.wrap ((IntKind.i64.wrap (Int.fdiv (IntKind.u64.wrap (IntKind.i64.wrap (i9 + j10))) (2 ^ 1))) + 1)) j10
           else
             F143l1 x0 target1 hcmp2 fuel0 i9 (IntKind.i64.wrap (Int.fdiv (IntKind.u64.wrap (IntKind.i64.wrap (i9 + j10))) (2 ^ 1)))))))
      else
        some (i9,j10))
def F143 (x0:List qj) (target1:zy) (hcmp2:qj → zy → Int):Option (Int × Bool) :=
  (obind (F143l1 x0 target1 hcmp2 100 0 (x0.length:Int)) (fun acc0=>(bif decide (acc0.1 < (x0.length:Int)) then
      (obind (getI x0 acc0.1) (fun x915 =>
        (let c46:=hcmp2 x915 target1
         some (acc0.1,decide (c46 = 0)))))
    else
      some (acc0.1,false))))
def F144 (x0:qj) (p1:zy):Int :=
  (let c10:=F126 x0.P.A p1.A
   (let c16:=F127 x0.P.N p1.N
    F125 ([c10,c16]:List Int)))
def F108 (l0:List qj) (p1:zy) (c2:qj) (is3:Bool):Option (List qj) :=
  ((obind (F143 l0 p1 (fun y0 y1=>F144 y0 y1)) (fun c14 =>
     (bif decide (l0.length < 1099511627776) then
       (bif c14.2 then
         (bif is3 then
           (obind (getI l0 c14.1) (fun x910=>some (l0.set c14.1.toNat c2)))
         else
           (bif decide ((0:Int) ≤ c14.1) then
             (bif decide (c14.1 ≤ IntKind.i64.wrap (c14.1 + 1)) then
               (bif decide (IntKind.i64.wrap (c14.1 + 1) ≤ (l0.length:Int)) then
                 some (bY l0 c14.1 (IntKind.i64.wrap (c14.1 + 1)))
               else none)
             else none)
           else none))
       else
         (bif is3 then
           (bif decide ((0:Int) ≤ c14.1) then
             (bif decide (c14.1 ≤ (l0.length:Int)) then
               some (db l0 c14.1 ([c2]:List qj))
             else none)
           else none)
         else
           some l0))
     else none))))
def F46 (c0:qj) (from1:Int):Bool :=
  (c0.Leaked && (decide (c0.From = from1)))
def F109 (c0:qj) (a1:Int) (a2:zy):Bool :=
  (let c7:=F46 c0 a1
   (c7 && (decide (c0.P.A = a2.A) && (decide (c0.P.N = a2.N) && true))))
def F71l1 (at1:Int) (p2:zy) (c24:qj × Bool):(is7:Bool) → (n0x:TNet) → List zz → Option (Bool × TNet)
  | is7,n0x,[]=>some (is7,n0x)
  | is7,n0x,x49 :: l49=>(bif decide (x49.From = at1) then
        (obind (getI n0x.T x49.To) (fun x934 =>
          ((obind (F42 x934 (fun y0=>F109 y0 at1 p2)) (fun c66 =>
             ((obind (F47 x49 c24.1) (fun c70 =>
                (bif c70.2 then
                  (bif is7 then
                    ((obind (F48 c66 c70.1) (fun c80 =>
                       (bif n0x.Over then
                         (let c106:=F56 c80.1.L x934.L (fun y0 y1=>F57 y0 y1)
                          (bif c106 then
                            F71l1 at1 p2 c24 true (⟨n0x.T,n0x.Sel,n0x.L,n0x.Work,true⟩ : TNet) l49
                          else
                            (obind (F68 (⟨(n0x.T.set x49.To.toNat c80.1),n0x.Sel,n0x.L,n0x.Work,true⟩ : TNet) x49.To p2) (fun c120=>F71l1 at1 p2 c24 true c120 l49))))
                       else
                         (let c106:=F56 c80.1.L x934.L (fun y0 y1=>F57 y0 y1)
                          (bif c106 then
                            F71l1 at1 p2 c24 true (⟨n0x.T,n0x.Sel,n0x.L,n0x.Work,!decide (c80.2 = 0)⟩ : TNet) l49
                          else
                            (obind (F68 (⟨(n0x.T.set x49.To.toNat c80.1),n0x.Sel,n0x.L,n0x.Work,!decide (c80.2 = 0)⟩ : TNet) x49.To p2) (fun c120=>F71l1 at1 p2 c24 true c120 l49))))))))
                  else
                    (let c106:=F56 c66.L x934.L (fun y0 y1=>F57 y0 y1)
                     (bif c106 then
                       F71l1 at1 p2 c24 false n0x l49
                     else
                       (obind (F68 (⟨(n0x.T.set x49.To.toNat c66),n0x.Sel,n0x.L,n0x.Work,n0x.Over⟩ : TNet) x49.To p2) (fun c120=>F71l1 at1 p2 c24 false c120 l49)))))
                else
                  (let c106:=F56 c66.L x934.L (fun y0 y1=>F57 y0 y1)
                   (bif c106 then
                     F71l1 at1 p2 c24 is7 n0x l49
                   else
                     (obind (F68 (⟨(n0x.T.set x49.To.toNat c66),n0x.Sel,n0x.L,n0x.Work,n0x.Over⟩ : TNet) x49.To p2) (fun c120=>F71l1 at1 p2 c24 is7 c120 l49)))))))))))))
      else
        F71l1 at1 p2 c24 is7 n0x l49)
def F71 (n0:TNet) (at1:Int) (p2:zy):Option TNet :=
  (obind (getI n0.T at1) (fun x900=>(obind (F107 x900 p2) (fun c24=>(obind (getI n0.Sel at1) (fun x901=>(obind (F108 x901 p2 c24.1 c24.2) (fun c42=>(obind (F71l1 at1 p2 c24 c24.2 (⟨n0.T,(n0.Sel.set at1.toNat c42),n0.L,n0.Work,n0.Over⟩ : TNet) n0.L) (fun acc49=>some acc49.2))))))))))
def F28 (n0:TNet) (i1:Int):Option (TNet × Bool) :=
  (bif decide ((n0.Work.length:Int) = 0) then
    some (n0,false)
  else
    ((obind (F41 n0) (fun c15 =>
       (bif decide ((c15.Work.length:Int) ≠ 0) then
         (obind (getI c15.Work (Int.tmod (max_ i1 0) (c15.Work.length:Int))) (fun x903 =>
           (bif decide ((0:Int) ≤ (Int.tmod (max_ i1 0) (c15.Work.length:Int))) then
             (bif decide ((Int.tmod (max_ i1 0) (c15.Work.length:Int)) ≤ IntKind.i64.wrap ((Int.tmod (max_ i1 0) (c15.Work.length:Int)) + 1)) then
               (bif decide (IntKind.i64.wrap ((Int.tmod (max_ i1 0) (c15.Work.length:Int)) + 1) ≤ (c15.Work.length:Int)) then
                 (bif decide (c15.Work.length < 1099511627776) then
                   (obind (F71 (⟨c15.T,c15.Sel,c15.L,(bY c15.Work (Int.tmod (max_ i1 0) (c15.Work.length:Int)) (IntKind.i64.wrap ((Int.tmod (max_ i1 0) (c15.Work.length:Int)) + 1))),c15.Over⟩ : TNet) x903.At x903.P) (fun c47=>some (c47,true)))
                 else none)
               else none)
             else none)
           else none)))
       else none)))))
def F74 (t0:qk) (c1:qj):Option (qk × Bool) :=
  ((obind (F90 t0.L c1 (fun y0 y1=>F91 y0 y1)) (fun c12 =>
     (bif c12.2 then
       (bif decide (t0.L.length < 1099511627776) then
         (bif decide ((0:Int) ≤ c12.1) then
           (bif decide (c12.1 ≤ IntKind.i64.wrap (c12.1 + 1)) then
             (bif decide (IntKind.i64.wrap (c12.1 + 1) ≤ (t0.L.length:Int)) then
               some ((⟨(bY t0.L c12.1 (IntKind.i64.wrap (c12.1 + 1)))⟩ : qk),true)
             else none)
           else none)
         else none)
       else none)
     else
       some (t0,false)))))
def F31 (n0:TNet) (at1:Int) (c2:qj):Option (TNet × Int) :=
  ((obind (F64 n0 at1) (fun c12 =>
     (bif c12 then
       (bif c2.Leaked then
         some (n0,1)
       else
         (obind (getI n0.T at1) (fun x902 =>
           ((obind (F74 x902 c2) (fun c26 =>
              (bif c26.2 then
                (obind (F69 n0 at1 c26.1 c2) (fun c36=>some (c36,0)))
              else
                some (n0,6))))))))
     else
       some (n0,1)))))
def F76 (c0:qj) (a1:zz):Bool :=
  F46 c0 a1.From
def F32l1 (x902:zz):(k_2_7:List zz) → (k_4_7:Bool) → (row3:List qk) → (row4:List (List qj)) → (row5:List zw) → List qj → Option ((List zz) × Bool × (List qk) × (List (List qj)) × (List zw))
  | k_2_7,k_4_7,row3,row4,row5,[]=>some (k_2_7,k_4_7,row3,row4,row5)
  | k_2_7,k_4_7,row3,row4,row5,x48 :: l48=>(let c55:=F46 x48 x902.From
       (bif c55 then
         (obind (F68 (⟨row3,row4,k_2_7,row5,k_4_7⟩ : TNet) x902.To x48.P) (fun c61=>F32l1 x902 c61.L c61.Over c61.T c61.Sel c61.Work l48))
       else
         F32l1 x902 k_2_7 k_4_7 row3 row4 row5 l48))
def F32 (n0:TNet) (i1:Int):Option (TNet × Int) :=
  (bif decide (i1 < 0) then
    some (n0,6)
  else
    (bif decide ((n0.L.length:Int) ≤ i1) then
      some (n0,6)
    else
      (obind (getI n0.L i1) (fun x902 =>
        ((obind (F41 n0) (fun c26 =>
           (bif decide ((0:Int) ≤ i1) then
             (bif decide (i1 ≤ IntKind.i64.wrap (i1 + 1)) then
               (bif decide (IntKind.i64.wrap (i1 + 1) ≤ (c26.L.length:Int)) then
                 (bif decide (c26.L.length < 1099511627776) then
                   (obind (getI c26.T x902.To) (fun x908=>(obind (F32l1 x902 (bY c26.L i1 (IntKind.i64.wrap (i1 + 1))) c26.Over c26.T c26.Sel c26.Work x908.L) (fun acc48=>(obind (getI acc48.2.2.1 x902.To) (fun x922=>(obind (F42 x922 (fun y0=>F76 y0 x902)) (fun c78=>some ((⟨(acc48.2.2.1.set x902.To.toNat c78),acc48.2.2.2.1,acc48.1,acc48.2.2.2.2,acc48.2.1⟩ : TNet),0)))))))))
                 else none)
               else none)
             else none)
           else none))))))))
def F14 (n0:TNet) (a1:TAct):Option (TNet × Int) :=
  (bif decide (a1.Kind = 1) then
    (obind (F27 n0 a1.At a1.C) (fun c17=>some (c17.1,c17.2)))
  else
    (bif decide (a1.Kind = 2) then
      (obind (F31 n0 a1.At a1.C) (fun c27=>some (c27.1,c27.2)))
    else
      (bif decide (a1.Kind = 3) then
        (obind (F25 n0 a1.At a1.To a1.Map) (fun c39=>some (c39.1,c39.2)))
      else
        (bif decide (a1.Kind = 4) then
          (obind (F32 n0 a1.At) (fun c47=>some (c47.1,c47.2)))
        else
          (obind (F28 n0 a1.To) (fun c54=>some (c54.1,0)))))))
def F7l1  : (n6:TNet) → (i8:Nat) → List TAct → Option TNet
  | n6,i8,[]=>some n6
  | n6,i8,x8 :: l8=>(bif decide ((i8:Int) < 30) then
        ((obind (F13 x8) (fun c34 =>
           (bif c34 then
             (obind (F14 n6 x8) (fun c41=>F7l1 c41.1 (i8 + 1) l8))
           else
             F7l1 n6 (i8 + 1) l8))))
      else
        some n6)
def F7 (size0:Int) (script1:List TAct):Option (TNet × Bool) :=
  ((obind (F11 size0) (fun c13 =>
     (bif decide (c13.2 = 0) then
       (obind (F7l1 c13.1 0 script1) (fun acc8=>some (acc8,decide (c13.2 = 0))))
     else
       some (c13.1,decide (c13.2 = 0))))))
def F9l1 (picks1:List Int) (fuel0:Nat) (many6:Int) (n2:TNet):Option (Except (TNet × Int) (Int × TNet)) :=
  match fuel0 with
  | 0=>none
  | fuel0 + 1=>(bif decide (many6 < (picks1.length:Int)) then
        (obind (getI picks1 many6) (fun x908=>(obind (F28 n2 x908) (fun c23=>(bif c23.2 then F9l1 picks1 fuel0 (IntKind.i64.wrap (many6 + 1)) c23.1 else some (.error ((n2,many6))))))))
      else
        (obind (F28 n2 0) (fun c23=>(bif c23.2 then F9l1 picks1 fuel0 (IntKind.i64.wrap (many6 + 1)) c23.1 else some (.error ((n2,many6)))))))
def F9 (n0:TNet) (picks1:List Int):Option (TNet × Int) :=
  (oexc (F9l1 picks1 100000 0 n0) (fun r=>some r) (fun acc0=>none))
def F26:Option (List zx) :=
  some ([(⟨1,true,([]:List zv),(-1),0,16777215,([]:List Int),(-1),0,(-1),false,0⟩ : zx)]:List zx)
def F8:Option Bool :=
  ((obind (F11 2) (fun c7 =>
     ((obind (F26) (fun c12 =>
        ((obind (F25 c7.1 0 1 c12) (fun c13 =>
           ((obind (F27 c13.1 0 (⟨(⟨0,0⟩ : zy),2,0,110,0,0,false,0,([(⟨1,0⟩ : THop)]:List THop)⟩ : qj)) (fun c21 =>
              ((obind (F9 c21.1 ([]:List Int)) (fun c26 =>
                 (bif decide (c7.2 = 0) then
                   (bif decide (c13.2 = 0) then
                     (bif decide (c21.2 = 0) then
                       (bif decide (c26.2 = 2) then
                         (bif decide ((c26.1.Sel.length:Int) = 2) then
                           (obind (getI c26.1.Sel 1) (fun x905=>(bif decide ((x905.length:Int) = 1) then (obind (getI x905 0) (fun x907=>some x907.Leaked)) else some false)))
                         else
                           some false)
                       else
                         some false)
                     else
                       some false)
                   else
                     some false)
                 else
                   some false))))))))))))))))
def F43 (c0:qj):Bool :=
  c0.Leaked
def F45 (c0:qj) (a1:zz):Bool :=
  F46 c0 a1.From
def F19l1 (x940:zz) (x943:List qj) (fuel8:Nat) (t88:Int) (t10:qk):Option (Int × qk) :=
  match fuel8 with
  | 0=>none
  | fuel8 + 1=>(bif decide (t88 < (x943.length:Int)) then
        (obind (getI x943 t88) (fun x957 =>
          ((obind (F47 x940 x957) (fun c95 =>
             (bif c95.2 then
               (obind (F48 t10 c95.1) (fun c102=>F19l1 x940 x943 fuel8 (IntKind.i64.wrap (t88 + 1)) c102.1))
             else
               F19l1 x940 x943 fuel8 (IntKind.i64.wrap (t88 + 1)) t10))))))
      else
        some (t88,t10))
def F19l4 (c16:TNet) (row3x:List (List qj)) (fuel6:Nat) (t65:Int) (row2x:List qk):Option (Int × (List qk)) :=
  match fuel6 with
  | 0=>none
  | fuel6 + 1=>(bif decide (t65 < (c16.L.length:Int)) then
        (obind (getI c16.L t65) (fun x1019=>(obind (getI row2x x1019.To) (fun x1021=>(obind (F42 x1021 (fun y0=>F45 y0 x1019)) (fun c78=>(obind (getI row3x x1019.From) (fun x1022=>(obind (F19l1 x1019 x1022 1000 0 c78) (fun acc8=>F19l4 c16 row3x fuel6 (IntKind.i64.wrap (t65 + 1)) (row2x.set x1019.To.toNat acc8.2)))))))))))
      else
        some (t65,row2x))
def F19l5 (row2:List qk) (fuel4:Nat) (t46:Int) (row3x:List (List qj)):Option (Int × (List (List qj))) :=
  match fuel4 with
  | 0=>none
  | fuel4 + 1=>(bif decide (t46 < (row2.length:Int)) then
        (obind (getI row2 t46) (fun x1039=>(obind (allO x1039) (fun c57=>(obind (getI row3x t46) (fun x1040=>F19l5 row2 fuel4 (IntKind.i64.wrap (t46 + 1)) (row3x.set t46.toNat c57)))))))
      else
        some (t46,row3x))
def F19l6 (c16:TNet) (fuel2:Nat) (t39:Int) (row2:List qk) (row3:List (List qj)):Option (Int × (List qk) × (List (List qj))) :=
  match fuel2 with
  | 0=>none
  | fuel2 + 1=>(bif decide (t39 < 8) then
        (obind (F19l5 row2 1000 0 row3) (fun acc4=>(obind (F19l4 c16 acc4.2 1000 0 row2) (fun acc6=>F19l6 c16 fuel2 (IntKind.i64.wrap (t39 + 1)) acc6.2 acc4.2))))
      else
        some (t39,row2,row3))
def F19l7 (c16:TNet) (fuel0:Nat) (t25:Int) (t23:List qk):Option (Int × (List qk)) :=
  match fuel0 with
  | 0=>none
  | fuel0 + 1=>(bif decide (t25 < (c16.T.length:Int)) then
        (obind (getI t23 t25) (fun x1186=>(obind (F42 x1186 (fun y0=>F43 y0)) (fun c36=>F19l7 c16 fuel0 (IntKind.i64.wrap (t25 + 1)) (t23.set t25.toNat c36)))))
      else
        some (t25,t23))
def F19 (n0:TNet):Option TNet :=
  (obind (F41 n0) (fun c16=>(obind (F19l7 c16 1000 0 c16.T) (fun acc0=>(obind (F19l6 c16 1000 0 acc0.2 c16.Sel) (fun acc2=>some (⟨acc2.2.1,acc2.2.2,c16.L,([]:List zw),c16.Over⟩ : TNet)))))))
def F54l1 (s21:List qk) (heq2:qk → qk → Bool):(i17:Nat) → List qk → Option (Except Bool Unit)
  | i17,[]=>some (.ok ())
  | i17,x17 :: l17=>(obind (getI s21 (i17:Int)) (fun x904 =>
        (let c29:=heq2 x17 x904
         (bif c29 then F54l1 s21 heq2 (i17 + 1) l17 else some (.error (false))))))
def F54 (s10:List qk) (s21:List qk) (heq2:qk → qk → Bool):Option Bool :=
  (bif decide ((s10.length:Int) = (s21.length:Int)) then
    (oexc (F54l1 s21 heq2 0 s10) (fun r=>some r) (fun acc17=>some true))
  else
    some false)
def F55 (x0:qk) (y1:qk):Bool :=
  F56 x0.L y1.L (fun y0 y1=>F57 y0 y1)
def F58l1 (s21:List (List qj)) (heq2:(List qj) → (List qj) → Bool):(i17:Nat) → List (List qj) → Option (Except Bool Unit)
  | i17,[]=>some (.ok ())
  | i17,x17 :: l17=>(obind (getI s21 (i17:Int)) (fun x904 =>
        (let c29:=heq2 x17 x904
         (bif c29 then F58l1 s21 heq2 (i17 + 1) l17 else some (.error (false))))))
def F58 (s10:List (List qj)) (s21:List (List qj)) (heq2:(List qj) → (List qj) → Bool):Option Bool :=
  (bif decide ((s10.length:Int) = (s21.length:Int)) then
    (oexc (F58l1 s21 heq2 0 s10) (fun r=>some r) (fun acc17=>some true))
  else
    some false)
def F59 (x0:List qj) (y1:List qj):Bool :=
  F56 x0 y1 (fun y0 y1=>F57 y0 y1)
def F60l1 (s21:List zz) (heq2:zz → zz → Bool):(i17:Nat) → List zz → Option (Except Bool Unit)
  | i17,[]=>some (.ok ())
  | i17,x17 :: l17=>(obind (getI s21 (i17:Int)) (fun x904 =>
        (let c29:=heq2 x17 x904
         (bif c29 then F60l1 s21 heq2 (i17 + 1) l17 else some (.error (false))))))
def F60 (s10:List zz) (s21:List zz) (heq2:zz → zz → Bool):Option Bool :=
  (bif decide ((s10.length:Int) = (s21.length:Int)) then
    (oexc (F60l1 s21 heq2 0 s10) (fun r=>some r) (fun acc17=>some true))
  else
    some false)
def F61 (x0:zz) (y1:zz):Bool :=
  ((decide (x0.From = y1.From)) && (decide (x0.To = y1.To)))
def F62l1 (s21:List zw):(i13:Nat) → List zw → Option (Except Bool Unit)
  | i13,[]=>some (.ok ())
  | i13,x13 :: l13=>(obind (getI s21 (i13:Int)) (fun x904=>(bif decide (x13.At = x904.At) && (decide (x13.P.A = x904.P.A) && (decide (x13.P.N = x904.P.N) && true)) then F62l1 s21 (i13 + 1) l13 else some (.error (false)))))
def F62 (s10:List zw) (s21:List zw):Option Bool :=
  (bif decide ((s10.length:Int) = (s21.length:Int)) then
    (oexc (F62l1 s21 0 s10) (fun r=>some r) (fun acc13=>some true))
  else
    some false)
def F21 (a0:TNet) (b1:TNet):Option Bool :=
  ((obind (F54 a0.T b1.T (fun y0 y1=>F55 y0 y1)) (fun c12 =>
     ((obind (F58 a0.Sel b1.Sel (fun y0 y1=>F59 y0 y1)) (fun c17 =>
        ((obind (F60 a0.L b1.L (fun y0 y1=>F61 y0 y1)) (fun c22 =>
           (bif c12 then
             (bif c17 then
               (bif c22 then
                 (obind (F62 a0.Work b1.Work) (fun c35=>(bif c35 then some (a0.Over == b1.Over) else some false)))
               else
                 some false)
             else
               some false)
           else
             some false))))))))))
def F63l1 (l0:List zy) (p1:zy):List zy → Option (Except (List zy) Unit)
  | []=>some (.ok ())
  | x5 :: l5=>(bif (decide (x5.A = p1.A) && (decide (x5.N = p1.N) && true)) then some (.error (l0)) else F63l1 l0 p1 l5)
def F63 (l0:List zy) (p1:zy):Option (List zy) :=
  (oexc (F63l1 l0 p1 l0) (fun r=>some r) (fun acc5=>(bif decide (l0.length < 1099511627776) then
      some (l0 ++ ([p1]:List zy))
    else none)))
def F22l2  : (l3x:List zy) → List zw → Option (List zy)
  | l3x,[]=>some l3x
  | l3x,x6 :: l6=>(obind (F63 l3x x6.P) (fun c52=>F22l2 c52 l6))
def F22l3  : (l3x:List zy) → List qj → Option (List zy)
  | l3x,[]=>some l3x
  | l3x,x5 :: l5=>(obind (F63 l3x x5.P) (fun c37=>F22l3 c37 l5))
def F22l4  : (l3:List zy) → List qk → Option (List zy)
  | l3,[]=>some l3
  | l3,x4 :: l4=>(obind (F22l3 l3 x4.L) (fun acc5=>F22l4 acc5 l4))
def F22 (n0:TNet):Option Int :=
  (obind (F22l4 ([]:List zy) n0.T) (fun acc4=>(obind (F22l2 acc4 n0.Work) (fun acc6=>some (acc6.length:Int)))))
def F5 (size0:Int) (script1:List TAct) (picks2:TS):Option Bool :=
  ((obind (F7 size0 script1) (fun c18 =>
     (bif c18.2 then
       (bif decide (100 < (picks2.e0.length:Int)) then
         (obind (F8) (fun c35=>some c35))
       else
         (bif decide (100 < (picks2.e1.length:Int)) then
           (obind (F8) (fun c35=>some c35))
         else
           ((obind (F9 c18.1 picks2.e0) (fun c40 =>
              ((obind (F9 c18.1 picks2.e1) (fun c47 =>
                 ((obind (F22 c18.1) (fun c51 =>
                    (bif decide (IntKind.i64.wrap (400 * c51) < c40.2) then
                      some false
                    else
                      (bif decide (IntKind.i64.wrap (400 * c51) < c47.2) then
                        some false
                      else
                        (bif decide (0 < IntKind.i64.wrap ((c40.1.Work.length:Int) + (c47.1.Work.length:Int))) then
                          some false
                        else
                          (bif c40.1.Over then
                            (obind (F8) (fun c77=>some c77))
                          else
                            (bif c47.1.Over then
                              (obind (F8) (fun c77=>some c77))
                            else
                              ((obind (F19 c18.1) (fun c79 =>
                                 ((obind (F8) (fun c80 =>
                                    (bif c80 then
                                      (obind (F21 c40.1 c47.1) (fun c84=>(bif c84 then (obind (F21 c40.1 c79) (fun c89=>some c89)) else some false)))
                                    else
                                      some false)))))))))))))))))))))))
     else
       (obind (F8) (fun c35=>some c35))))))
theorem gd {α:Type} {p:Prop} [Decidable p] {x:Option α} {r:α} (h:(bif decide p then x else none) = some r):decide p = true ∧ p ∧ x = some r:=by
 by_cases q:p
 ·rw [decide_eq_true q] at h; exact ⟨decide_eq_true q,q,h⟩
 ·rw [decide_eq_false q] at h; cases h
abbrev oT (d g:Nat) (p:AOp) (l:List AX):AO:=⟨some d,some (g,true),p,l⟩
abbrev oF (d g:Nat) (p:AOp) (l:List AX):AO:=⟨some d,some (g,false),p,l⟩
abbrev oN (p:AOp) (l:List AX):AO:=⟨none,none,p,l⟩
abbrev ld:AOp:=.load none
abbrev lo (n:Nat):AOp:=.load (some n)
abbrev ci (n:Int):AX:=.c (.int .i64 n)
abbrev cT:AX:=.c (.bool true)
abbrev cF:AX:=.c (.bool false)
abbrev z6:PVal:=.int .i64 0
abbrev sr (l:List AO) (c:AC):AC:=.seq (.reg [] l) c
noncomputable abbrev J:=fnInfo Tryz.prog
abbrev o (d:Nat) (p:AOp) (l:List AX):AO:=⟨some d,none,p,l⟩
theorem qv:Tryz.prog.follows .mixedOrders = true:=by kernel_rfl
def ac5:AC :=
 sr [o 5 .box [.t 2],o 6 .mov [cF]]
 (sr [o 16 .mov [.t 0],o 17 .mov [.t 1],o 18 (.call 7) [.t 16,.t 17],o 15 .mov [.t 18],o 19 (.ext 0) [.t 15],o 20 (.ext 1) [.t 15],o 7 (.alloc [.nils,.nils,.nils,.nils,.bool false]) [],oN (.store 5) [.t 7,.t 19],o 8 .mov [.t 20]]
 (.seq (sr [o 21 .mov [.t 8],o 22 .unNot [.t 21],o 23 .mov [.t 22],oF 24 23 (.idxAA 2 1) [.t 5,ci 0],oF 25 23 ld [.t 24],oF 26 23 .lenL [.t 25],oF 27 23 (.bin .gtr .scal) [.t 26,ci 100],o 28 .pick [.t 23,cT,.t 27],o 29 .mov [.t 28],oF 30 29 (.idxAA 2 1) [.t 5,ci 1],oF 31 29 ld [.t 30],oF 32 29 .lenL [.t 31],oF 33 29 (.bin .gtr .scal) [.t 32,ci 100],o 34 .pick [.t 29,cT,.t 33]]
 (.cond (.t 34)
 (sr [o 35 (.call 8) [],o 6 .mov [.t 35]]
 .ret)
 .skip))
 (sr [o 37 (lo 5) [.t 7],o 38 (.idxAA 2 1) [.t 5,ci 0],o 39 ld [.t 38],o 40 (.call 9) [.t 37,.t 39],o 36 .mov [.t 40],o 41 (.ext 0) [.t 36],o 42 (.ext 1) [.t 36],o 9 (.alloc [.nils,.nils,.nils,.nils,.bool false]) [],oN (.store 5) [.t 9,.t 41],o 10 .mov [.t 42]]
 (sr [o 44 (lo 5) [.t 7],o 45 (.idxAA 2 1) [.t 5,ci 1],o 46 ld [.t 45],o 47 (.call 9) [.t 44,.t 46],o 43 .mov [.t 47],o 48 (.ext 0) [.t 43],o 49 (.ext 1) [.t 43],o 11 (.alloc [.nils,.nils,.nils,.nils,.bool false]) [],oN (.store 5) [.t 11,.t 48],o 12 .mov [.t 49]]
 (sr [o 50 (lo 5) [.t 7],o 51 (.call 22) [.t 50],o 52 (.bin .mul .scal) [ci 400,.t 51],o 13 .mov [.t 52]]
 (.seq (sr [o 53 .mov [.t 10],o 54 .mov [.t 13],o 55 (.bin .gtr .scal) [.t 53,.t 54],o 56 .mov [.t 55],oF 57 56 .mov [.t 12],oF 58 56 .mov [.t 13],oF 59 56 (.bin .gtr .scal) [.t 57,.t 58],o 60 .pick [.t 56,cT,.t 59],o 61 .mov [.t 60],oF 62 61 (.fldA 3) [.t 9],oF 63 61 ld [.t 62],oF 64 61 .lenL [.t 63],oF 65 61 (.fldA 3) [.t 11],oF 66 61 ld [.t 65],oF 67 61 .lenL [.t 66],oF 68 61 (.bin .add .scal) [.t 64,.t 67],oF 69 61 (.bin .gtr .scal) [.t 68,ci 0],o 70 .pick [.t 61,cT,.t 69]]
 (.cond (.t 70)
 (sr [o 6 .mov [cF]]
 .ret)
 .skip))
 (.seq (sr [o 71 (.fldA 4) [.t 9],o 72 ld [.t 71],o 73 .mov [.t 72],oF 74 73 (.fldA 4) [.t 11],oF 75 73 ld [.t 74],o 76 .pick [.t 73,cT,.t 75]]
 (.cond (.t 76)
 (sr [o 77 (.call 8) [],o 6 .mov [.t 77]]
 .ret)
 .skip))
 (sr [o 78 (lo 5) [.t 7],o 79 (.call 19) [.t 78],o 14 (.alloc [.nils,.nils,.nils,.nils,.bool false]) [],oN (.store 5) [.t 14,.t 79]]
 (sr [o 80 (.call 8) [],o 81 .mov [.t 80],oT 82 81 (lo 5) [.t 9],oT 83 81 (lo 5) [.t 11],oT 84 81 (.call 21) [.t 82,.t 83],o 85 .pick [.t 81,.t 84,cF],o 86 .mov [.t 85],oT 87 86 (lo 5) [.t 9],oT 88 86 (lo 5) [.t 14],oT 89 86 (.call 21) [.t 87,.t 88],o 90 .pick [.t 86,.t 89,cF],o 6 .mov [.t 90]]
 .ret)))))))))
theorem i5:J 5 = some (91,[.t 6],ac5):=by kernel_rfl
def ac7_1:AC :=
 .seq (sr [o 16 .mov [.t 7],o 17 (.bin .eql .scal) [.t 16,ci 0],o 18 .mov [.t 17],oT 19 18 .mov [.t 8],oT 20 18 .mov [.t 1],oT 21 18 .lenL [.t 20],oT 22 18 (.bin .lss .scal) [.t 19,.t 21],o 23 .pick [.t 18,.t 22,cF],o 24 .mov [.t 23],oT 25 24 .mov [.t 8],oT 26 24 (.bin .lss .scal) [.t 25,ci 30],o 27 .pick [.t 24,.t 26,cF]]
 (.cond (.t 27)
 .skip
 (.exit 0)))
 (.seq (.block 1 (sr [o 30 .mov [.t 1],o 31 .mov [.t 8],o 32 (.idxA 14) [.t 30,.t 31],o 33 (lo 14) [.t 32],o 34 (.call 13) [.t 33]]
 (.cond (.t 34)
 (.seq (.reg [[],[],[],[1,2],[3],[0,4],[5],[6],[6],[],[9,7,5,0,1,2,3,4,5,6,7,9],[8,10,0,1,2,3,4,5,6,7,8,9,10]]
 [o 36 (lo 5) [.t 6],o 37 .mov [.t 1],o 38 .mov [.t 8],o 39 (.idxA 14) [.t 37,.t 38],o 40 (lo 14) [.t 39],o 41 (.call 14) [.t 36,.t 40],o 35 .mov [.t 41],o 42 (.ext 0) [.t 35],o 43 (.ext 1) [.t 35],o 9 (.alloc [.nils,.nils,.nils,.nils,.bool false]) [],oN (.store 5) [.t 9,.t 42],o 10 .mov [.t 43]])
 (.reg []
 [o 44 (lo 5) [.t 9],oN (.store 5) [.t 6,.t 44]]))
 .skip)))
 (.reg []
 [o 28 .mov [.t 8],o 29 (.bin .add .scal) [.t 28,ci 1],o 8 .mov [.t 29]]))
def ac7:AC :=
 sr [o 4 (.alloc [.nils,.nils,.nils,.nils,.bool false]) [],o 5 .mov [cF]]
 (sr [o 12 .mov [.t 0],o 13 (.call 11) [.t 12],o 11 .mov [.t 13],o 14 (.ext 0) [.t 11],o 15 (.ext 1) [.t 11],o 6 (.alloc [.nils,.nils,.nils,.nils,.bool false]) [],oN (.store 5) [.t 6,.t 14],o 7 .mov [.t 15]]
 (.seq (sr [o 8 .mov [ci 0]]
 (.block 0 (.loop ac7_1)))
 (sr [o 45 (lo 5) [.t 6],o 46 .mov [.t 7],o 47 (.bin .eql .scal) [.t 46,ci 0],oN (.store 5) [.t 4,.t 45],o 5 .mov [.t 47]]
 .ret)))
theorem i7:J 7 = some (48,[.c 4 (some 5),.t 5],ac7):=by kernel_rfl
def ac8:AC :=
 sr [o 0 .mov [cF]]
 (sr [o 7 (.call 11) [ci 2],o 6 .mov [.t 7],o 8 (.ext 0) [.t 6],o 9 (.ext 1) [.t 6],o 1 (.alloc [.nils,.nils,.nils,.nils,.bool false]) [],oN (.store 5) [.t 1,.t 8],o 2 .mov [.t 9]]
 (.seq (.reg [[],[],[0,1,1],[2],[3],[3],[4,2,0,1,2,3,4],[5,6,0,1,2,3,4,5,6]]
 [o 11 (lo 5) [.t 1],o 12 (.call 26) [],o 13 (.call 25) [.t 11,ci 0,ci 1,.t 12],o 10 .mov [.t 13],o 14 (.ext 0) [.t 10],o 15 (.ext 1) [.t 10],oN (.store 5) [.t 1,.t 14],o 3 .mov [.t 15]])
 (sr [o 17 (lo 5) [.t 1],o 18 (.build [z6,.int .u32 0] [(0,1)]) [ci 1],o 19 (.bslice 2 81) [.t 18],o 20 (.build [.int .u32 0,z6,z6,z6,z6,z6,.int .u32 0,.bool false,z6,.nils] [(2,1),(4,1),(9,1)]) [ci 2,ci 110,.t 19],o 21 (.call 27) [.t 17,ci 0,.t 20],o 16 .mov [.t 21],o 22 (.ext 0) [.t 16],o 23 (.ext 1) [.t 16],oN (.store 5) [.t 1,.t 22],o 4 .mov [.t 23]]
 (sr [o 25 (lo 5) [.t 1],o 26 (.call 9) [.t 25,.c .nils],o 24 .mov [.t 26],o 27 (.ext 0) [.t 24],o 28 (.ext 1) [.t 24],oN (.store 5) [.t 1,.t 27],o 5 .mov [.t 28]]
 (sr [o 29 .mov [.t 2],o 30 (.bin .eql .scal) [.t 29,ci 0],o 31 .mov [.t 30],oT 32 31 .mov [.t 3],oT 33 31 (.bin .eql .scal) [.t 32,ci 0],o 34 .pick [.t 31,.t 33,cF],o 35 .mov [.t 34],oT 36 35 .mov [.t 4],oT 37 35 (.bin .eql .scal) [.t 36,ci 0],o 38 .pick [.t 35,.t 37,cF],o 39 .mov [.t 38],oT 40 39 .mov [.t 5],oT 41 39 (.bin .eql .scal) [.t 40,ci 2],o 42 .pick [.t 39,.t 41,cF],o 43 .mov [.t 42],oT 44 43 (.fldA 1) [.t 1],oT 45 43 ld [.t 44],oT 46 43 .lenL [.t 45],oT 47 43 (.bin .eql .scal) [.t 46,ci 2],o 48 .pick [.t 43,.t 47,cF],o 49 .mov [.t 48],oT 50 49 (.fldA 1) [.t 1],oT 51 49 ld [.t 50],oT 52 49 (.idxA 1) [.t 51,ci 1],oT 53 49 ld [.t 52],oT 54 49 .lenL [.t 53],oT 55 49 (.bin .eql .scal) [.t 54,ci 1],o 56 .pick [.t 49,.t 55,cF],o 57 .mov [.t 56],oT 58 57 (.fldA 1) [.t 1],oT 59 57 ld [.t 58],oT 60 57 (.idxA 1) [.t 59,ci 1],oT 61 57 ld [.t 60],oT 62 57 (.idxA 10) [.t 61,ci 0],oT 63 57 (.fldA 7) [.t 62],oT 64 57 ld [.t 63],o 65 .pick [.t 57,.t 64,cF],o 0 .mov [.t 65]]
 .ret)))))
theorem i8:J 8 = some (66,[.t 0],ac8):=by kernel_rfl
def ac9_1:AC :=
 .seq (.block 1 (sr [o 7 .mov [ci 0]]
 (.seq (sr [o 12 .mov [.t 6],o 13 .mov [.t 1],o 14 .lenL [.t 13],o 15 (.bin .lss .scal) [.t 12,.t 14]]
 (.cond (.t 15)
 (.reg []
 [o 16 .mov [.t 1],o 17 .mov [.t 6],o 18 (.idxA 1) [.t 16,.t 17],o 19 ld [.t 18],o 7 .mov [.t 19]])
 .skip))
 (sr [o 21 (lo 5) [.t 2],o 22 .mov [.t 7],o 23 (.call 28) [.t 21,.t 22],o 20 .mov [.t 23],o 24 (.ext 0) [.t 20],o 25 (.ext 1) [.t 20],o 8 (.alloc [.nils,.nils,.nils,.nils,.bool false]) [],oN (.store 5) [.t 8,.t 24],o 9 .mov [.t 25]]
 (.seq (sr [o 26 .mov [.t 9],o 27 .unNot [.t 26]]
 (.cond (.t 27)
 (sr [o 28 (lo 5) [.t 2],o 29 .mov [.t 6],oN (.store 5) [.t 4,.t 28],o 5 .mov [.t 29]]
 .ret)
 .skip))
 (.reg []
 [o 30 (lo 5) [.t 8],oN (.store 5) [.t 2,.t 30]]))))))
 (.reg []
 [o 10 .mov [.t 6],o 11 (.bin .add .scal) [.t 10,ci 1],o 6 .mov [.t 11]])
def ac9:AC :=
 sr [o 2 .box [.t 0],o 4 (.alloc [.nils,.nils,.nils,.nils,.bool false]) [],o 5 .mov [ci 0]]
 (sr [o 6 .mov [ci 0]]
 (.block 0 (.loop ac9_1)))
theorem i9:J 9 = some (31,[.c 4 (some 5),.t 5],ac9):=by kernel_rfl
def ac11:AC :=
 sr [o 2 (.alloc [.nils,.nils,.nils,.nils,.bool false]) [],o 3 .mov [ci 0]]
 (.seq (sr [o 4 .mov [.t 0],o 5 (.bin .lss .scal) [.t 4,ci 1],o 6 .mov [.t 5],oF 7 6 .mov [.t 0],oF 8 6 (.bin .gtr .scal) [.t 7,ci 6],o 9 .pick [.t 6,cT,.t 8]]
 (.cond (.t 9)
 (sr [o 10 (.build [.nils,.nils,.nils,.nils,.bool false] []) [],oN (.store 5) [.t 2,.t 10],o 3 .mov [ci 1]]
 .ret)
 .skip))
 (.seq (.reg [[],[0,0],[],[2,2],[1,3],[4,0,1,2,3,4],[5,0,1,2,3,4,5]]
 [o 11 .mov [.t 0],o 12 (.mkslice 1 36 24 [.ro 10 []]) [.t 11,.t 11],o 13 .mov [.t 0],o 14 (.mkslice 1 34 24 [.ro 10 []]) [.t 13,.t 13],o 15 (.build [.nils,.nils,.nils,.nils,.bool false] [(0,1),(1,1)]) [.t 12,.t 14],oN (.store 5) [.t 2,.t 15],o 3 .mov [ci 0]])
 .ret))
theorem i11:J 11 = some (16,[.c 2 (some 5),.t 3],ac11):=by kernel_rfl
def ac13_1:AC :=
 .seq (sr [o 15 .mov [.t 3],o 16 (.fldA 13) [.t 1],o 17 ld [.t 16],o 18 .lenL [.t 17],o 19 (.bin .lss .scal) [.t 15,.t 18]]
 (.cond (.t 19)
 .skip
 (.exit 0)))
 (.seq (.block 1 (sr [o 22 (.fldA 13) [.t 1],o 23 ld [.t 22],o 24 .mov [.t 3],o 25 (.idxA 12) [.t 23,.t 24],o 26 (.fldA 2) [.t 25],o 27 ld [.t 26],o 28 .lenL [.t 27],o 29 (.bin .gtr .scal) [.t 28,ci 8],o 30 .mov [.t 29],oF 31 30 (.fldA 13) [.t 1],oF 32 30 ld [.t 31],oF 33 30 .mov [.t 3],oF 34 30 (.idxA 12) [.t 32,.t 33],oF 35 30 (.fldA 6) [.t 34],oF 36 30 ld [.t 35],oF 37 30 .lenL [.t 36],oF 38 30 (.bin .gtr .scal) [.t 37,ci 8],o 39 .pick [.t 30,cT,.t 38]]
 (.cond (.t 39)
 (sr [o 2 .mov [cF]]
 .ret)
 .skip)))
 (.reg []
 [o 20 .mov [.t 3],o 21 (.bin .add .scal) [.t 20,ci 1],o 3 .mov [.t 21]]))
def ac13:AC :=
 sr [o 1 .box [.t 0],o 2 .mov [cF]]
 (.seq (sr [o 4 (.fldA 3) [.t 1],o 5 (.fldA 9) [.t 4],o 6 ld [.t 5],o 7 .lenL [.t 6],o 8 (.bin .gtr .scal) [.t 7,ci 20],o 9 .mov [.t 8],oF 10 9 (.fldA 13) [.t 1],oF 11 9 ld [.t 10],oF 12 9 .lenL [.t 11],oF 13 9 (.bin .gtr .scal) [.t 12,ci 8],o 14 .pick [.t 9,cT,.t 13]]
 (.cond (.t 14)
 (sr [o 2 .mov [cF]]
 .ret)
 .skip))
 (.seq (sr [o 3 .mov [ci 0]]
 (.block 0 (.loop ac13_1)))
 (sr [o 2 .mov [cT]]
 .ret)))
theorem i13:J 13 = some (40,[.t 2],ac13):=by kernel_rfl
def ac14:AC :=
 sr [o 2 .box [.t 0],o 3 .box [.t 1],o 4 (.alloc [.nils,.nils,.nils,.nils,.bool false]) [],o 5 .mov [ci 0]]
 (.seq (sr [o 8 (.fldA 0) [.t 3],o 9 ld [.t 8]]
 (.block 0 (sr [o 11 (.bin .eql .scal) [.t 9,ci 1],o 10 .mov [.t 11]]
 (.cond (.t 10)
 (sr [o 12 (lo 5) [.t 2],o 13 (.fldA 1) [.t 3],o 14 ld [.t 13],o 15 (.fldA 3) [.t 3],o 16 (lo 10) [.t 15],o 17 (.call 27) [.t 12,.t 14,.t 16],o 18 (.ext 0) [.t 17],o 19 (.ext 1) [.t 17],oN (.store 5) [.t 4,.t 18],o 5 .mov [.t 19]]
 .ret)
 (sr [o 21 (.bin .eql .scal) [.t 9,ci 2],o 20 .mov [.t 21]]
 (.cond (.t 20)
 (sr [o 22 (lo 5) [.t 2],o 23 (.fldA 1) [.t 3],o 24 ld [.t 23],o 25 (.fldA 3) [.t 3],o 26 (lo 10) [.t 25],o 27 (.call 31) [.t 22,.t 24,.t 26],o 28 (.ext 0) [.t 27],o 29 (.ext 1) [.t 27],oN (.store 5) [.t 4,.t 28],o 5 .mov [.t 29]]
 .ret)
 (sr [o 31 (.bin .eql .scal) [.t 9,ci 3],o 30 .mov [.t 31]]
 (.cond (.t 30)
 (sr [o 32 (lo 5) [.t 2],o 33 (.fldA 1) [.t 3],o 34 ld [.t 33],o 35 (.fldA 2) [.t 3],o 36 ld [.t 35],o 37 (.fldA 13) [.t 3],o 38 ld [.t 37],o 39 (.call 25) [.t 32,.t 34,.t 36,.t 38],o 40 (.ext 0) [.t 39],o 41 (.ext 1) [.t 39],oN (.store 5) [.t 4,.t 40],o 5 .mov [.t 41]]
 .ret)
 (sr [o 43 (.bin .eql .scal) [.t 9,ci 4],o 42 .mov [.t 43]]
 (.cond (.t 42)
 (sr [o 44 (lo 5) [.t 2],o 45 (.fldA 1) [.t 3],o 46 ld [.t 45],o 47 (.call 32) [.t 44,.t 46],o 48 (.ext 0) [.t 47],o 49 (.ext 1) [.t 47],oN (.store 5) [.t 4,.t 48],o 5 .mov [.t 49]]
 .ret)
 .skip))))))))))
 (sr [o 51 (lo 5) [.t 2],o 52 (.fldA 2) [.t 3],o 53 ld [.t 52],o 54 (.call 28) [.t 51,.t 53],o 50 .mov [.t 54],o 55 (.ext 0) [.t 50],o 56 (.ext 1) [.t 50],o 6 (.alloc [.nils,.nils,.nils,.nils,.bool false]) [],oN (.store 5) [.t 6,.t 55],o 7 .mov [.t 56]]
 (sr [o 57 (lo 5) [.t 6],oN (.store 5) [.t 4,.t 57],o 5 .mov [ci 0]]
 .ret)))
theorem i14:J 14 = some (58,[.c 4 (some 5),.t 5],ac14):=by kernel_rfl
def ac19_1:AC :=
 sr [o 26 (.bin .lss .scal) [.t 25,.t 24]]
 (.seq (.cond (.t 26)
 .skip
 (.exit 0))
 (.seq (.block 1 (sr [o 27 .mov [.t 25],o 28 (.idxA 1) [.t 23,.t 25],o 29 (lo 1) [.t 28],o 5 (.alloc [.nils]) [],o 4 .mov [.t 27],oN (.store 1) [.t 5,.t 29]]
 (.reg [[],[0],[1],[2],[],[],[5],[3,4,0,1,2,3,4,5,6],[7,6,6,0,1,2,3,4,5,6]]
 [o 30 .mov [.t 3],o 31 .nilchk [.t 30],o 32 (.fldA 0) [.t 31],o 33 ld [.t 32],o 34 .mov [.t 4],o 35 (lo 1) [.t 5],o 36 (.call 42) [.t 35,.f 43],o 37 (.idxA 1) [.t 33,.t 34],oN (.store 1) [.t 37,.t 36]])))
 (.reg []
 [o 38 (.bin .add .scal) [.t 25,ci 1],o 25 .mov [.t 38]])))
def ac19_2:AC :=
 sr [o 47 (.bin .lss .scal) [.t 46,.t 45]]
 (.seq (.cond (.t 47)
 .skip
 (.exit 4))
 (.seq (.block 5 (sr [o 48 .mov [.t 46],o 49 (.idxA 1) [.t 44,.t 46],o 50 (lo 1) [.t 49],o 7 (.alloc [.nils]) [],o 6 .mov [.t 48],oN (.store 1) [.t 7,.t 50]]
 (.reg [[],[0],[1],[2],[],[],[5],[3,4,0,1,2,3,4,5,6],[7,6,6,0,1,2,3,4,5,6]]
 [o 51 .mov [.t 3],o 52 .nilchk [.t 51],o 53 (.fldA 1) [.t 52],o 54 ld [.t 53],o 55 .mov [.t 6],o 56 (lo 1) [.t 7],o 57 (.call 44) [.t 56],o 58 (.idxA 1) [.t 54,.t 55],oN (.store 1) [.t 58,.t 57]])))
 (.reg []
 [o 59 (.bin .add .scal) [.t 46,ci 1],o 46 .mov [.t 59]])))
def ac19_3:AC :=
 sr [o 89 (.bin .lss .scal) [.t 88,.t 87]]
 (.seq (.cond (.t 89)
 .skip
 (.exit 8))
 (.seq (.block 9 (sr [o 90 (.idxA 10) [.t 86,.t 88],o 91 (lo 10) [.t 90],o 12 (.alloc [.int .u32 0,z6,z6,z6,z6,z6,.int .u32 0,.bool false,z6,.nils]) [],oN (.store 10) [.t 12,.t 91]]
 (sr [o 93 (lo 3) [.t 9],o 94 (lo 10) [.t 12],o 95 (.call 47) [.t 93,.t 94],o 92 .mov [.t 95],o 96 (.ext 0) [.t 92],o 97 (.ext 1) [.t 92],o 13 (.alloc [.int .u32 0,z6,z6,z6,z6,z6,.int .u32 0,.bool false,z6,.nils]) [],oN (.store 10) [.t 13,.t 96],o 14 .mov [.t 97]]
 (sr [o 98 .mov [.t 14]]
 (.cond (.t 98)
 (.reg []
 [o 100 (lo 1) [.t 10],o 101 (lo 10) [.t 13],o 102 (.call 48) [.t 100,.t 101],o 99 .mov [.t 102],o 103 (.ext 0) [.t 99],o 104 (.ext 1) [.t 99],oN (.store 1) [.t 10,.t 103]])
 .skip)))))
 (.reg []
 [o 105 (.bin .add .scal) [.t 88,ci 1],o 88 .mov [.t 105]])))
def ac19_4:AC :=
 sr [o 66 (.bin .lss .scal) [.t 65,.t 64]]
 (.seq (.cond (.t 66)
 .skip
 (.exit 6))
 (.seq (.block 7 (sr [o 67 (.idxA 3) [.t 63,.t 65],o 68 (lo 3) [.t 67],o 9 (.alloc [z6,z6,.nils]) [],oN (.store 3) [.t 9,.t 68]]
 (.seq (.reg [[],[0],[1],[2],[],[4],[3,5],[6],[],[7,8],[],[10,9,9,0,1,2,3,4,5,6,7,8,9,10]]
 [o 69 .mov [.t 3],o 70 .nilchk [.t 69],o 71 (.fldA 0) [.t 70],o 72 ld [.t 71],o 73 (.fldA 1) [.t 9],o 74 ld [.t 73],o 75 (.idxA 1) [.t 72,.t 74],o 76 (lo 1) [.t 75],o 77 (.mkfn 45 0) [.t 9],o 78 (.call 42) [.t 76,.t 77],o 10 (.alloc [.nils]) [],oN (.store 1) [.t 10,.t 78]])
 (.seq (.seq (.reg [[],[0],[1],[2],[],[4],[3,5],[6],[7],[]]
 [o 79 .mov [.t 3],o 80 .nilchk [.t 79],o 81 (.fldA 1) [.t 80],o 82 ld [.t 81],o 83 (.fldA 0) [.t 9],o 84 ld [.t 83],o 85 (.idxA 1) [.t 82,.t 84],o 86 ld [.t 85],o 87 .lenL [.t 86],o 88 .mov [ci 0]])
 (.block 8 (.loop ac19_3)))
 (.reg [[],[0],[1],[2],[],[4],[],[3,5,0,1,2,3,4,5,6],[7,6,0,1,2,3,4,5,6]]
 [o 106 .mov [.t 3],o 107 .nilchk [.t 106],o 108 (.fldA 0) [.t 107],o 109 ld [.t 108],o 110 (.fldA 1) [.t 9],o 111 ld [.t 110],o 112 (lo 1) [.t 10],o 113 (.idxA 1) [.t 109,.t 111],oN (.store 1) [.t 113,.t 112]])))))
 (.reg []
 [o 114 (.bin .add .scal) [.t 65,ci 1],o 65 .mov [.t 114]])))
def ac19_5:AC :=
 sr [o 40 (.bin .lss .scal) [.t 39,ci 8]]
 (.seq (.cond (.t 40)
 .skip
 (.exit 2))
 (.seq (.block 3 (.seq (sr [o 41 .mov [.t 3],o 42 .nilchk [.t 41],o 43 (.fldA 0) [.t 42],o 44 ld [.t 43],o 45 .lenL [.t 44],o 46 .mov [ci 0]]
 (.block 4 (.loop ac19_2)))
 (sr [o 60 .mov [.t 3],o 61 .nilchk [.t 60],o 62 (.fldA 2) [.t 61],o 63 ld [.t 62],o 64 .lenL [.t 63],o 65 .mov [ci 0]]
 (.block 6 (.loop ac19_4)))))
 (.reg []
 [o 115 (.bin .add .scal) [.t 39,ci 1],o 39 .mov [.t 115]])))
def ac19:AC :=
 sr [o 1 .box [.t 0],o 2 (.alloc [.nils,.nils,.nils,.nils,.bool false]) []]
 (sr [o 15 (lo 5) [.t 1],o 16 (.call 41) [.t 15],o 3 .mov [.t 16]]
 (sr [o 17 .mov [.t 3],o 18 .nilchk [.t 17],o 19 (.fldA 3) [.t 18],oN (.store 1) [.t 19,.c .nils]]
 (.seq (sr [o 20 .mov [.t 3],o 21 .nilchk [.t 20],o 22 (.fldA 0) [.t 21],o 23 ld [.t 22],o 24 .lenL [.t 23],o 25 .mov [ci 0]]
 (.block 0 (.loop ac19_1)))
 (.seq (sr [o 39 .mov [ci 0]]
 (.block 2 (.loop ac19_5)))
 (sr [o 116 .mov [.t 3],o 117 .nilchk [.t 116],o 118 (lo 5) [.t 117],oN (.store 5) [.t 2,.t 118]]
 .ret)))))
theorem i19:J 19 = some (119,[.c 2 (some 5)],ac19):=by kernel_rfl
def ac21:AC :=
 sr [o 2 .box [.t 0],o 3 .box [.t 1],o 4 .mov [cF]]
 (sr [o 8 (.fldA 0) [.t 2],o 9 ld [.t 8],o 10 (.fldA 0) [.t 3],o 11 ld [.t 10],o 12 (.call 54) [.t 9,.t 11,.f 55],o 5 .mov [.t 12]]
 (sr [o 13 (.fldA 1) [.t 2],o 14 ld [.t 13],o 15 (.fldA 1) [.t 3],o 16 ld [.t 15],o 17 (.call 58) [.t 14,.t 16,.f 59],o 6 .mov [.t 17]]
 (sr [o 18 (.fldA 2) [.t 2],o 19 ld [.t 18],o 20 (.fldA 2) [.t 3],o 21 ld [.t 20],o 22 (.call 60) [.t 19,.t 21,.f 61],o 7 .mov [.t 22]]
 (sr [o 23 .mov [.t 5],o 24 .mov [.t 23],oT 25 24 .mov [.t 6],o 26 .pick [.t 24,.t 25,cF],o 27 .mov [.t 26],oT 28 27 .mov [.t 7],o 29 .pick [.t 27,.t 28,cF],o 30 .mov [.t 29],oT 31 30 (.fldA 3) [.t 2],oT 32 30 ld [.t 31],oT 33 30 (.fldA 3) [.t 3],oT 34 30 ld [.t 33],oT 35 30 (.call 62) [.t 32,.t 34],o 36 .pick [.t 30,.t 35,cF],o 37 .mov [.t 36],oT 38 37 (.fldA 4) [.t 2],oT 39 37 ld [.t 38],oT 40 37 (.fldA 4) [.t 3],oT 41 37 ld [.t 40],oT 42 37 (.bin .eql .bool) [.t 39,.t 41],o 43 .pick [.t 37,.t 42,cF],o 4 .mov [.t 43]]
 .ret))))
theorem i21:J 21 = some (44,[.t 4],ac21):=by kernel_rfl
def ac22_1:AC :=
 .seq (sr [o 15 .mov [.t 5],o 16 (.fldA 0) [.t 1],o 17 ld [.t 16],o 18 .mov [.t 4],o 19 (.idxA 1) [.t 17,.t 18],o 20 (.fldA 0) [.t 19],o 21 ld [.t 20],o 22 .lenL [.t 21],o 23 (.bin .lss .scal) [.t 15,.t 22]]
 (.cond (.t 23)
 .skip
 (.exit 2)))
 (.seq (.block 3 (.reg []
 [o 26 .mov [.t 3],o 27 (.fldA 0) [.t 1],o 28 ld [.t 27],o 29 .mov [.t 4],o 30 (.idxA 1) [.t 28,.t 29],o 31 (.fldA 0) [.t 30],o 32 ld [.t 31],o 33 .mov [.t 5],o 34 (.idxA 10) [.t 32,.t 33],o 35 (.fldA 0) [.t 34],o 36 (lo 2) [.t 35],o 37 (.call 63) [.t 26,.t 36],o 3 .mov [.t 37]]))
 (.reg []
 [o 24 .mov [.t 5],o 25 (.bin .add .scal) [.t 24,ci 1],o 5 .mov [.t 25]]))
def ac22_2:AC :=
 .seq (sr [o 8 .mov [.t 4],o 9 (.fldA 0) [.t 1],o 10 ld [.t 9],o 11 .lenL [.t 10],o 12 (.bin .lss .scal) [.t 8,.t 11]]
 (.cond (.t 12)
 .skip
 (.exit 0)))
 (.seq (.block 1 (sr [o 5 .mov [ci 0]]
 (.block 2 (.loop ac22_1))))
 (.reg []
 [o 13 .mov [.t 4],o 14 (.bin .add .scal) [.t 13,ci 1],o 4 .mov [.t 14]]))
def ac22_3:AC :=
 .seq (sr [o 38 .mov [.t 6],o 39 (.fldA 3) [.t 1],o 40 ld [.t 39],o 41 .lenL [.t 40],o 42 (.bin .lss .scal) [.t 38,.t 41]]
 (.cond (.t 42)
 .skip
 (.exit 4)))
 (.seq (.block 5 (.reg []
 [o 45 .mov [.t 3],o 46 (.fldA 3) [.t 1],o 47 ld [.t 46],o 48 .mov [.t 6],o 49 (.idxA 3) [.t 47,.t 48],o 50 (.fldA 1) [.t 49],o 51 (lo 2) [.t 50],o 52 (.call 63) [.t 45,.t 51],o 3 .mov [.t 52]]))
 (.reg []
 [o 43 .mov [.t 6],o 44 (.bin .add .scal) [.t 43,ci 1],o 6 .mov [.t 44]]))
def ac22:AC :=
 sr [o 1 .box [.t 0],o 2 .mov [ci 0]]
 (sr [o 7 (.bslice 2 39) [],o 3 .mov [.t 7]]
 (.seq (sr [o 4 .mov [ci 0]]
 (.block 0 (.loop ac22_2)))
 (.seq (sr [o 6 .mov [ci 0]]
 (.block 4 (.loop ac22_3)))
 (sr [o 53 .mov [.t 3],o 54 .lenL [.t 53],o 2 .mov [.t 54]]
 .ret))))
theorem i22:J 22 = some (55,[.t 2],ac22):=by kernel_rfl
def ac25_1:AC :=
 sr [o 64 (.bin .lss .scal) [.t 63,.t 62]]
 (.seq (.cond (.t 64)
 .skip
 (.exit 0))
 (.seq (.block 1 (sr [o 65 (.idxA 10) [.t 61,.t 63],o 66 (lo 10) [.t 65],o 12 (.alloc [.int .u32 0,z6,z6,z6,z6,z6,.int .u32 0,.bool false,z6,.nils]) [],oN (.store 10) [.t 12,.t 66]]
 (.reg []
 [o 67 .mov [.t 10],o 68 ld [.t 5],o 69 (.fldA 0) [.t 12],o 70 (lo 2) [.t 69],o 71 (.call 68) [.t 67,.t 68,.t 70]])))
 (.reg []
 [o 72 (.bin .add .scal) [.t 63,ci 1],o 63 .mov [.t 72]])))
def ac25:AC :=
 sr [o 4 .box [.t 0],o 5 .box [.t 1],o 6 .box [.t 2],o 8 (.alloc [.nils,.nils,.nils,.nils,.bool false]) [],o 9 .mov [ci 0]]
 (.seq (sr [o 13 (lo 5) [.t 4],o 14 ld [.t 5],o 15 (.call 64) [.t 13,.t 14],o 16 .unNot [.t 15],o 17 .mov [.t 16],oF 18 17 (lo 5) [.t 4],oF 19 17 ld [.t 6],oF 20 17 (.call 64) [.t 18,.t 19],oF 21 17 .unNot [.t 20],o 22 .pick [.t 17,cT,.t 21],o 23 .mov [.t 22],oF 24 23 ld [.t 5],oF 25 23 ld [.t 6],oF 26 23 (.bin .eql .scal) [.t 24,.t 25],o 27 .pick [.t 23,cT,.t 26],o 28 .mov [.t 27],oF 29 28 .mov [.t 3],oF 30 28 (.call 65) [.t 29],oF 31 28 .unNot [.t 30],o 32 .pick [.t 28,cT,.t 31]]
 (.cond (.t 32)
 (sr [o 33 (lo 5) [.t 4],oN (.store 5) [.t 8,.t 33],o 9 .mov [ci 1]]
 .ret)
 .skip))
 (.seq (sr [o 34 (.fldA 2) [.t 4],o 35 ld [.t 34],o 36 (.mkfn 67 0) [.t 5,.t 6],o 37 (.call 66) [.t 35,.t 36]]
 (.cond (.t 37)
 (sr [o 38 (lo 5) [.t 4],oN (.store 5) [.t 8,.t 38],o 9 .mov [ci 7]]
 .ret)
 .skip))
 (sr [o 39 (lo 5) [.t 4],o 40 (.call 41) [.t 39],o 10 .mov [.t 40]]
 (.seq (.reg [[],[],[1],[2],[3],[],[],[],[5,6,7],[8],[4,9],[0,0,1,2,3,4,5,6,7,8,9,10],[11,0,1,2,3,4,5,6,7,8,9,10],[12,10,10,0,1,2,3,4,5,6,7,8,9,10]]
 [o 41 .mov [.t 10],o 42 .mov [.t 10],o 43 .nilchk [.t 42],o 44 (.fldA 2) [.t 43],o 45 ld [.t 44],o 46 ld [.t 5],o 47 ld [.t 6],o 48 .mov [.t 3],o 49 (.build [z6,z6,.nils] [(0,1),(1,1),(2,1)]) [.t 46,.t 47,.t 48],o 50 (.bslice 3 84) [.t 49],o 51 (.append 3 84 40) [.t 45,.t 50],o 52 .nilchk [.t 41],o 53 (.fldA 2) [.t 52],oN (.store 1) [.t 53,.t 51]])
 (.seq (.seq (.reg [[],[0],[1],[2],[],[3,4],[5],[6],[7],[]]
 [o 54 .mov [.t 10],o 55 .nilchk [.t 54],o 56 (.fldA 0) [.t 55],o 57 ld [.t 56],o 58 ld [.t 5],o 59 (.idxA 1) [.t 57,.t 58],o 60 (.fldA 0) [.t 59],o 61 ld [.t 60],o 62 .lenL [.t 61],o 63 .mov [ci 0]])
 (.block 0 (.loop ac25_1)))
 (sr [o 73 .mov [.t 10],o 74 .nilchk [.t 73],o 75 (lo 5) [.t 74],oN (.store 5) [.t 8,.t 75],o 9 .mov [ci 0]]
 .ret))))))
theorem i25:J 25 = some (76,[.c 8 (some 5),.t 9],ac25):=by kernel_rfl
def ac26:AC :=
 sr [o 0 .mov [.c .nils]]
 (sr [o 1 (.build [z6,.bool false,.nils,z6,z6,z6,.nils,z6,z6,z6,.bool false,.int .u32 0] [(0,1),(1,1),(3,1),(5,1),(7,1),(9,1)]) [ci 1,cT,ci (-1),ci 16777215,ci (-1),ci (-1)],o 2 (.bslice 12 93) [.t 1],o 0 .mov [.t 2]]
 .ret)
theorem i26:J 26 = some (3,[.t 0],ac26):=by kernel_rfl
def ac27:AC :=
 sr [o 3 .box [.t 0],o 5 .box [.t 2],o 6 (.alloc [.nils,.nils,.nils,.nils,.bool false]) [],o 7 .mov [ci 0]]
 (.seq (sr [o 10 (lo 5) [.t 3],o 11 .mov [.t 1],o 12 (.call 64) [.t 10,.t 11],o 13 .unNot [.t 12],o 14 .mov [.t 13],oF 15 14 (.fldA 7) [.t 5],oF 16 14 ld [.t 15],o 17 .pick [.t 14,cT,.t 16]]
 (.cond (.t 17)
 (sr [o 18 (lo 5) [.t 3],oN (.store 5) [.t 6,.t 18],o 7 .mov [ci 1]]
 .ret)
 .skip))
 (.seq (.reg [[],[0],[],[1,2],[3],[],[4,5],[6],[7],[7],[],[10,8,6,0,1,2,3,4,5,6,7,8,10],[9,11,0,1,2,3,4,5,6,7,8,9,10,11]]
 [o 20 (.fldA 0) [.t 3],o 21 ld [.t 20],o 22 .mov [.t 1],o 23 (.idxA 1) [.t 21,.t 22],o 24 (lo 1) [.t 23],o 25 (lo 10) [.t 5],o 26 (.call 48) [.t 24,.t 25],o 19 .mov [.t 26],o 27 (.ext 0) [.t 19],o 28 (.ext 1) [.t 19],o 8 (.alloc [.nils]) [],oN (.store 1) [.t 8,.t 27],o 9 .mov [.t 28]])
 (.seq (sr [o 29 .mov [.t 9],o 30 (.bin .neq .scal) [.t 29,ci 0]]
 (.cond (.t 30)
 (sr [o 31 (lo 5) [.t 3],o 32 .mov [.t 9],oN (.store 5) [.t 6,.t 31],o 7 .mov [.t 32]]
 .ret)
 .skip))
 (sr [o 33 (lo 5) [.t 3],o 34 .mov [.t 1],o 35 (lo 1) [.t 8],o 36 (lo 10) [.t 5],o 37 (.call 69) [.t 33,.t 34,.t 35,.t 36],oN (.store 5) [.t 6,.t 37],o 7 .mov [ci 0]]
 .ret))))
theorem i27:J 27 = some (38,[.c 6 (some 5),.t 7],ac27):=by kernel_rfl
def ac28:AC :=
 sr [o 2 .box [.t 0],o 4 (.alloc [.nils,.nils,.nils,.nils,.bool false]) [],o 5 .mov [cF]]
 (.seq (sr [o 9 (.fldA 3) [.t 2],o 10 ld [.t 9],o 11 .lenL [.t 10],o 12 (.bin .eql .scal) [.t 11,ci 0]]
 (.cond (.t 12)
 (sr [o 13 (lo 5) [.t 2],oN (.store 5) [.t 4,.t 13],o 5 .mov [cF]]
 .ret)
 .skip))
 (sr [o 14 (lo 5) [.t 2],o 15 (.call 41) [.t 14],o 6 .mov [.t 15]]
 (sr [o 16 .mov [.t 1],o 17 (.minmax true) [.t 16,ci 0],o 18 .mov [.t 6],o 19 .nilchk [.t 18],o 20 (.fldA 3) [.t 19],o 21 ld [.t 20],o 22 .lenL [.t 21],o 23 (.bin .rem .scal) [.t 17,.t 22],o 7 .mov [.t 23]]
 (sr [o 24 .mov [.t 6],o 25 .nilchk [.t 24],o 26 (.fldA 3) [.t 25],o 27 ld [.t 26],o 28 .mov [.t 7],o 29 (.idxA 3) [.t 27,.t 28],o 30 (lo 3) [.t 29],o 8 (.alloc [z6,.int .u32 0,z6]) [],oN (.store 3) [.t 8,.t 30]]
 (sr [o 31 .mov [.t 6],o 32 .mov [.t 6],o 33 .nilchk [.t 32],o 34 (.fldA 3) [.t 33],o 35 ld [.t 34],o 36 .mov [.t 7],o 37 .mov [.t 7],o 38 (.bin .add .scal) [.t 37,ci 1],o 39 (.call 70) [.t 35,.t 36,.t 38],o 40 .nilchk [.t 31],o 41 (.fldA 3) [.t 40],oN (.store 1) [.t 41,.t 39]]
 (sr [o 42 .mov [.t 6],o 43 (.fldA 0) [.t 8],o 44 ld [.t 43],o 45 (.fldA 1) [.t 8],o 46 (lo 2) [.t 45],o 47 (.call 71) [.t 42,.t 44,.t 46]]
 (sr [o 48 .mov [.t 6],o 49 .nilchk [.t 48],o 50 (lo 5) [.t 49],oN (.store 5) [.t 4,.t 50],o 5 .mov [cT]]
 .ret)))))))
theorem i28:J 28 = some (51,[.c 4 (some 5),.t 5],ac28):=by kernel_rfl
def ac31:AC :=
 sr [o 3 .box [.t 0],o 5 .box [.t 2],o 6 (.alloc [.nils,.nils,.nils,.nils,.bool false]) [],o 7 .mov [ci 0]]
 (.seq (sr [o 10 (lo 5) [.t 3],o 11 .mov [.t 1],o 12 (.call 64) [.t 10,.t 11],o 13 .unNot [.t 12],o 14 .mov [.t 13],oF 15 14 (.fldA 7) [.t 5],oF 16 14 ld [.t 15],o 17 .pick [.t 14,cT,.t 16]]
 (.cond (.t 17)
 (sr [o 18 (lo 5) [.t 3],oN (.store 5) [.t 6,.t 18],o 7 .mov [ci 1]]
 .ret)
 .skip))
 (.seq (.reg [[],[0],[],[1,2],[3],[],[4,5],[6],[7],[7],[],[10,8,6,0,1,2,3,4,5,6,7,8,10],[9,11,0,1,2,3,4,5,6,7,8,9,10,11]]
 [o 20 (.fldA 0) [.t 3],o 21 ld [.t 20],o 22 .mov [.t 1],o 23 (.idxA 1) [.t 21,.t 22],o 24 (lo 1) [.t 23],o 25 (lo 10) [.t 5],o 26 (.call 74) [.t 24,.t 25],o 19 .mov [.t 26],o 27 (.ext 0) [.t 19],o 28 (.ext 1) [.t 19],o 8 (.alloc [.nils]) [],oN (.store 1) [.t 8,.t 27],o 9 .mov [.t 28]])
 (.seq (sr [o 29 .mov [.t 9],o 30 .unNot [.t 29]]
 (.cond (.t 30)
 (sr [o 31 (lo 5) [.t 3],oN (.store 5) [.t 6,.t 31],o 7 .mov [ci 6]]
 .ret)
 .skip))
 (sr [o 32 (lo 5) [.t 3],o 33 .mov [.t 1],o 34 (lo 1) [.t 8],o 35 (lo 10) [.t 5],o 36 (.call 69) [.t 32,.t 33,.t 34,.t 35],oN (.store 5) [.t 6,.t 36],o 7 .mov [ci 0]]
 .ret))))
theorem i31:J 31 = some (37,[.c 6 (some 5),.t 7],ac31):=by kernel_rfl
def ac32_1:AC :=
 sr [o 49 (.bin .lss .scal) [.t 48,.t 47]]
 (.seq (.cond (.t 49)
 .skip
 (.exit 0))
 (.seq (.block 1 (sr [o 50 (.idxA 10) [.t 46,.t 48],o 51 (lo 10) [.t 50],o 9 (.alloc [.int .u32 0,z6,z6,z6,z6,z6,.int .u32 0,.bool false,z6,.nils]) [],oN (.store 10) [.t 9,.t 51]]
 (sr [o 52 (lo 10) [.t 9],o 53 (.fldA 0) [.t 6],o 54 ld [.t 53],o 55 (.call 46) [.t 52,.t 54]]
 (.cond (.t 55)
 (.reg []
 [o 56 .mov [.t 7],o 57 (.fldA 1) [.t 6],o 58 ld [.t 57],o 59 (.fldA 0) [.t 9],o 60 (lo 2) [.t 59],o 61 (.call 68) [.t 56,.t 58,.t 60]])
 .skip))))
 (.reg []
 [o 62 (.bin .add .scal) [.t 48,ci 1],o 48 .mov [.t 62]])))
def ac32:AC :=
 sr [o 2 .box [.t 0],o 4 (.alloc [.nils,.nils,.nils,.nils,.bool false]) [],o 5 .mov [ci 0]]
 (.seq (sr [o 10 .mov [.t 1],o 11 (.bin .lss .scal) [.t 10,ci 0],o 12 .mov [.t 11],oF 13 12 .mov [.t 1],oF 14 12 (.fldA 2) [.t 2],oF 15 12 ld [.t 14],oF 16 12 .lenL [.t 15],oF 17 12 (.bin .geq .scal) [.t 13,.t 16],o 18 .pick [.t 12,cT,.t 17]]
 (.cond (.t 18)
 (sr [o 19 (lo 5) [.t 2],oN (.store 5) [.t 4,.t 19],o 5 .mov [ci 6]]
 .ret)
 .skip))
 (.seq (.reg [[],[0],[],[1,2],[3],[],[5],[],[7,4,6,0,1,2,3,4,7],[6,8,0,1,2,3,4,5,6,7,8]]
 [o 20 (.fldA 2) [.t 2],o 21 ld [.t 20],o 22 .mov [.t 1],o 23 (.idxA 3) [.t 21,.t 22],o 24 (lo 3) [.t 23],o 25 (lo 5) [.t 2],o 26 (.call 41) [.t 25],o 6 (.alloc [z6,z6,.nils]) [],oN (.store 3) [.t 6,.t 24],o 7 .mov [.t 26]])
 (sr [o 27 .mov [.t 7],o 28 .mov [.t 7],o 29 .nilchk [.t 28],o 30 (.fldA 2) [.t 29],o 31 ld [.t 30],o 32 .mov [.t 1],o 33 .mov [.t 1],o 34 (.bin .add .scal) [.t 33,ci 1],o 35 (.call 75) [.t 31,.t 32,.t 34],o 36 .nilchk [.t 27],o 37 (.fldA 2) [.t 36],oN (.store 1) [.t 37,.t 35]]
 (.seq (.seq (.reg [[],[0],[1],[2],[],[4],[3,5],[6],[7],[8],[]]
 [o 38 .mov [.t 7],o 39 .nilchk [.t 38],o 40 (.fldA 0) [.t 39],o 41 ld [.t 40],o 42 (.fldA 1) [.t 6],o 43 ld [.t 42],o 44 (.idxA 1) [.t 41,.t 43],o 45 (.fldA 0) [.t 44],o 46 ld [.t 45],o 47 .lenL [.t 46],o 48 .mov [ci 0]])
 (.block 0 (.loop ac32_1)))
 (.seq (.reg [[],[0],[1],[2],[],[4],[],[6],[7],[8],[],[10],[9,11],[12],[],[13,14],[3,5,0,1,2,3,4,5,6,7,8,9,10,11,12,13,14,15],[16,15,15,0,1,2,3,4,5,6,7,8,9,10,11,12,13,14,15]]
 [o 63 .mov [.t 7],o 64 .nilchk [.t 63],o 65 (.fldA 0) [.t 64],o 66 ld [.t 65],o 67 (.fldA 1) [.t 6],o 68 ld [.t 67],o 69 .mov [.t 7],o 70 .nilchk [.t 69],o 71 (.fldA 0) [.t 70],o 72 ld [.t 71],o 73 (.fldA 1) [.t 6],o 74 ld [.t 73],o 75 (.idxA 1) [.t 72,.t 74],o 76 (lo 1) [.t 75],o 77 (.mkfn 76 0) [.t 6],o 78 (.call 42) [.t 76,.t 77],o 79 (.idxA 1) [.t 66,.t 68],oN (.store 1) [.t 79,.t 78]])
 (sr [o 80 .mov [.t 7],o 81 .nilchk [.t 80],o 82 (lo 5) [.t 81],oN (.store 5) [.t 4,.t 82],o 5 .mov [ci 0]]
 .ret))))))
theorem i32:J 32 = some (83,[.c 4 (some 5),.t 5],ac32):=by kernel_rfl
def ac41:AC :=
 sr [o 1 .box [.t 0],o 2 .mov [.c .nilp]]
 (.seq (.reg [[],[0],[1],[2,2],[],[4],[5],[6,6],[],[8],[9],[],[11],[12,10],[],[14],[3,7,10,13,15],[16],[17,13,0,1,2,3,4,5,6,7,8,9,10,11,12,13,14,15,16,17]]
 [o 4 (.fldA 0) [.t 1],o 5 ld [.t 4],o 6 .lenL [.t 5],o 7 (.mkslice 1 36 24 [.ro 10 []]) [.t 6,.t 6],o 8 (.fldA 1) [.t 1],o 9 ld [.t 8],o 10 .lenL [.t 9],o 11 (.mkslice 1 34 24 [.ro 10 []]) [.t 10,.t 10],o 12 (.fldA 2) [.t 1],o 13 ld [.t 12],o 14 (.call 82) [.t 13],o 15 (.fldA 3) [.t 1],o 16 ld [.t 15],o 17 (.call 83) [.t 16],o 18 (.fldA 4) [.t 1],o 19 ld [.t 18],o 20 (.build [.nils,.nils,.nils,.nils,.bool false] [(0,1),(1,1),(2,1),(3,1),(4,1)]) [.t 7,.t 11,.t 14,.t 17,.t 19],o 21 .box [.t 20],o 3 .mov [.t 21]])
 (.seq (.reg [[],[0],[1],[2],[],[4],[3,5]]
 [o 22 .mov [.t 3],o 23 .nilchk [.t 22],o 24 (.fldA 0) [.t 23],o 25 ld [.t 24],o 26 (.fldA 0) [.t 1],o 27 ld [.t 26],o 28 (.copy 1) [.t 25,.t 27]])
 (.seq (.reg [[],[0],[1],[2],[],[4],[3,5]]
 [o 29 .mov [.t 3],o 30 .nilchk [.t 29],o 31 (.fldA 1) [.t 30],o 32 ld [.t 31],o 33 (.fldA 1) [.t 1],o 34 ld [.t 33],o 35 (.copy 1) [.t 32,.t 34]])
 (sr [o 36 .mov [.t 3],o 2 .mov [.t 36]]
 .ret))))
theorem i41:J 41 = some (37,[.t 2],ac41):=by kernel_rfl
def ac42:AC :=
 sr [o 2 .box [.t 0],o 4 (.alloc [.nils]) []]
 (sr [o 5 (.fldA 0) [.t 2],o 6 ld [.t 5],o 7 (.call 85) [.t 6],o 8 .mov [.t 1],o 9 (.call 84) [.t 7,.t 8],o 10 (.build [.nils] [(0,1)]) [.t 9],oN (.store 1) [.t 4,.t 10]]
 .ret)
theorem i42:J 42 = some (11,[.c 4 (some 1)],ac42):=by kernel_rfl
def ac43:AC :=
 sr [o 1 .box [.t 0],o 2 .mov [cF]]
 (sr [o 3 (.fldA 7) [.t 1],o 4 ld [.t 3],o 2 .mov [.t 4]]
 .ret)
theorem i43:J 43 = some (5,[.t 2],ac43):=by kernel_rfl
def ac45:AC :=
 sr [o 2 .box [.t 0],o 3 .mov [cF]]
 (sr [o 4 (lo 10) [.t 2],o 5 (.fldA 0) [.t 1],o 6 ld [.t 5],o 7 (.call 46) [.t 4,.t 6],o 3 .mov [.t 7]]
 .ret)
theorem i45:J 45 = some (8,[.t 3],ac45):=by kernel_rfl
def ac46:AC :=
 sr [o 2 .box [.t 0],o 4 .mov [cF]]
 (sr [o 5 (.fldA 7) [.t 2],o 6 ld [.t 5],o 7 .mov [.t 6],oT 8 7 (.fldA 8) [.t 2],oT 9 7 ld [.t 8],oT 10 7 .mov [.t 1],oT 11 7 (.bin .eql .scal) [.t 9,.t 10],o 12 .pick [.t 7,.t 11,cF],o 4 .mov [.t 12]]
 .ret)
theorem i46:J 46 = some (13,[.t 4],ac46):=by kernel_rfl
def ac47:AC :=
 sr [o 2 .box [.t 0],o 3 .box [.t 1],o 4 (.alloc [.int .u32 0,z6,z6,z6,z6,z6,.int .u32 0,.bool false,z6,.nils]) [],o 5 .mov [cF]]
 (sr [o 10 (.fldA 0) [.t 3],o 11 (lo 2) [.t 10],o 12 (.fldA 2) [.t 3],o 13 ld [.t 12],o 14 (.fldA 5) [.t 3],o 15 ld [.t 14],o 16 (.minmax false) [.t 15,ci 16777215],o 17 (.fldA 6) [.t 3],o 18 ld [.t 17],o 19 (.build [.int .u32 0,z6,z6,z6,.int .u32 0] [(0,2),(2,1),(3,1),(4,1)]) [.t 11,.t 13,.t 16,.t 18],o 6 (.alloc [.int .u32 0,z6,z6,z6,.int .u32 0]) [],oN (.store 5) [.t 6,.t 19]]
 (.seq (sr [o 21 (.fldA 2) [.t 2],o 22 ld [.t 21],o 23 (lo 5) [.t 6],o 24 (.call 88) [.t 22,.t 23],o 20 .mov [.t 24],o 25 (.ext 0) [.t 20],o 26 (.ext 1) [.t 20],o 27 (.ext 2) [.t 20],o 7 (.alloc [.int .u32 0,z6,z6,z6,.int .u32 0]) [],oN (.store 5) [.t 7,.t 25],o 8 .mov [.t 26],o 9 .mov [.t 27]]
 (sr [o 28 (.fldA 7) [.t 3],o 29 ld [.t 28],o 30 .mov [.t 29],oF 31 30 .mov [.t 8],oF 32 30 .unNot [.t 31],o 33 .pick [.t 30,cT,.t 32]]
 (.cond (.t 33)
 (sr [o 34 (.build [.int .u32 0,z6,z6,z6,z6,z6,.int .u32 0,.bool false,z6,.nils] []) [],oN (.store 10) [.t 4,.t 34],o 5 .mov [cF]]
 .ret)
 .skip)))
 (.seq (.reg [[],[0],[],[2],[0,1,2,3],[4,1,3,0,1,2,3]]
 [o 35 (.fldA 0) [.t 2],o 36 ld [.t 35],o 37 (.fldA 7) [.t 3],oN (.store 1) [.t 37,cT],o 38 (.fldA 8) [.t 3],oN (.store 1) [.t 38,.t 36]])
 (sr [o 39 (lo 10) [.t 3],oN (.store 10) [.t 4,.t 39],o 5 .mov [cT]]
 .ret))))
theorem i47:J 47 = some (40,[.c 4 (some 10),.t 5],ac47):=by kernel_rfl
def ac48:AC :=
 sr [o 2 .box [.t 0],o 3 .box [.t 1],o 4 (.alloc [.nils]) [],o 5 .mov [ci 0]]
 (.seq (sr [o 9 (lo 10) [.t 3],o 10 (.call 89) [.t 9],o 11 .unNot [.t 10]]
 (.cond (.t 11)
 (sr [o 12 (lo 1) [.t 2],oN (.store 1) [.t 4,.t 12],o 5 .mov [ci 1]]
 .ret)
 .skip))
 (sr [o 14 (.fldA 0) [.t 2],o 15 ld [.t 14],o 16 (lo 10) [.t 3],o 17 (.call 90) [.t 15,.t 16,.f 91],o 13 .mov [.t 17],o 18 (.ext 0) [.t 13],o 19 (.ext 1) [.t 13],o 6 .mov [.t 18],o 7 .mov [.t 19]]
 (sr [o 20 (.fldA 0) [.t 2],o 21 ld [.t 20],o 22 (.call 85) [.t 21],o 8 .mov [.t 22]]
 (.seq (.block 0 (sr [o 29 .mov [.t 7],o 28 .mov [.t 29]]
 (.cond (.t 28)
 (.reg []
 [o 30 .mov [.t 8],o 31 .mov [.t 6],o 32 (lo 10) [.t 3],o 33 (.idxA 10) [.t 30,.t 31],oN (.store 10) [.t 33,.t 32]])
 (sr [o 35 .mov [.t 8],o 36 .lenL [.t 35],o 37 (.bin .geq .scal) [.t 36,ci 500],o 34 .mov [.t 37]]
 (.cond (.t 34)
 (sr [o 38 (lo 1) [.t 2],oN (.store 1) [.t 4,.t 38],o 5 .mov [ci 8]]
 .ret)
 (.reg []
 [o 23 .mov [.t 8],o 24 .mov [.t 6],o 25 (lo 10) [.t 3],o 26 (.bslice 10 42) [.t 25],o 27 (.call 92) [.t 23,.t 24,.t 26],o 8 .mov [.t 27]]))))))
 (sr [o 39 .mov [.t 8],o 40 (.build [.nils] [(0,1)]) [.t 39],oN (.store 1) [.t 4,.t 40],o 5 .mov [ci 0]]
 .ret)))))
theorem i48:J 48 = some (41,[.c 4 (some 1),.t 5],ac48):=by kernel_rfl
def ac54_1:AC :=
 sr [o 18 (.bin .lss .scal) [.t 17,.t 16]]
 (.seq (.cond (.t 18)
 .skip
 (.exit 0))
 (.seq (.block 1 (sr [o 19 .mov [.t 17],o 20 (.idxA 1) [.t 15,.t 17],o 21 (lo 1) [.t 20],o 8 (.alloc [.nils]) [],o 7 .mov [.t 19],oN (.store 1) [.t 8,.t 21]]
 (sr [o 22 .mov [.t 1],o 23 .mov [.t 7],o 24 (.idxA 1) [.t 22,.t 23],o 25 (lo 1) [.t 24],o 9 (.alloc [.nils]) [],oN (.store 1) [.t 9,.t 25]]
 (sr [o 26 .mov [.t 2],o 27 (lo 1) [.t 8],o 28 (lo 1) [.t 9],o 29 .callv [.t 26,.t 27,.t 28],o 30 .unNot [.t 29]]
 (.cond (.t 30)
 (sr [o 6 .mov [cF]]
 .ret)
 .skip)))))
 (.reg []
 [o 31 (.bin .add .scal) [.t 17,ci 1],o 17 .mov [.t 31]])))
def ac54:AC :=
 sr [o 6 .mov [cF]]
 (.seq (sr [o 10 .mov [.t 0],o 11 .lenL [.t 10],o 12 .mov [.t 1],o 13 .lenL [.t 12],o 14 (.bin .neq .scal) [.t 11,.t 13]]
 (.cond (.t 14)
 (sr [o 6 .mov [cF]]
 .ret)
 .skip))
 (.seq (sr [o 15 .mov [.t 0],o 16 .lenL [.t 15],o 17 .mov [ci 0]]
 (.block 0 (.loop ac54_1)))
 (sr [o 6 .mov [cT]]
 .ret)))
theorem i54:J 54 = some (32,[.t 6],ac54):=by kernel_rfl
def ac55:AC :=
 sr [o 2 .box [.t 0],o 3 .box [.t 1],o 4 .mov [cF]]
 (sr [o 5 (.fldA 0) [.t 2],o 6 ld [.t 5],o 7 (.fldA 0) [.t 3],o 8 ld [.t 7],o 9 (.call 56) [.t 6,.t 8,.f 57],o 4 .mov [.t 9]]
 .ret)
theorem i55:J 55 = some (10,[.t 4],ac55):=by kernel_rfl
def ac56_1:AC :=
 sr [o 18 (.bin .lss .scal) [.t 17,.t 16]]
 (.seq (.cond (.t 18)
 .skip
 (.exit 0))
 (.seq (.block 1 (sr [o 19 .mov [.t 17],o 20 (.idxA 10) [.t 15,.t 17],o 21 (lo 10) [.t 20],o 8 (.alloc [.int .u32 0,z6,z6,z6,z6,z6,.int .u32 0,.bool false,z6,.nils]) [],o 7 .mov [.t 19],oN (.store 10) [.t 8,.t 21]]
 (sr [o 22 .mov [.t 1],o 23 .mov [.t 7],o 24 (.idxA 10) [.t 22,.t 23],o 25 (lo 10) [.t 24],o 9 (.alloc [.int .u32 0,z6,z6,z6,z6,z6,.int .u32 0,.bool false,z6,.nils]) [],oN (.store 10) [.t 9,.t 25]]
 (sr [o 26 .mov [.t 2],o 27 (lo 10) [.t 8],o 28 (lo 10) [.t 9],o 29 .callv [.t 26,.t 27,.t 28],o 30 .unNot [.t 29]]
 (.cond (.t 30)
 (sr [o 6 .mov [cF]]
 .ret)
 .skip)))))
 (.reg []
 [o 31 (.bin .add .scal) [.t 17,ci 1],o 17 .mov [.t 31]])))
def ac56:AC :=
 sr [o 6 .mov [cF]]
 (.seq (sr [o 10 .mov [.t 0],o 11 .lenL [.t 10],o 12 .mov [.t 1],o 13 .lenL [.t 12],o 14 (.bin .neq .scal) [.t 11,.t 13]]
 (.cond (.t 14)
 (sr [o 6 .mov [cF]]
 .ret)
 .skip))
 (.seq (sr [o 15 .mov [.t 0],o 16 .lenL [.t 15],o 17 .mov [ci 0]]
 (.block 0 (.loop ac56_1)))
 (sr [o 6 .mov [cT]]
 .ret)))
theorem i56:J 56 = some (32,[.t 6],ac56):=by kernel_rfl
def ac57:AC :=
 sr [o 2 .box [.t 0],o 3 .box [.t 1],o 4 .mov [cF]]
 (sr [o 7 (.fldA 9) [.t 2],o 8 ld [.t 7],o 9 (.fldA 9) [.t 3],o 10 ld [.t 9],o 11 (.call 97) [.t 8,.t 10],o 5 .mov [.t 11]]
 (sr [o 12 (.fldA 9) [.t 2],oN (.store 1) [.t 12,.c .nils],o 13 (.fldA 9) [.t 3],oN (.store 1) [.t 13,.c .nils]]
 (sr [o 14 (.fldA 0) [.t 2],o 15 (lo 2) [.t 14],o 16 (.fldA 0) [.t 3],o 17 (lo 2) [.t 16],o 18 (.bin .eql (.flat [.int .u32,.int .i64])) [.t 15,.t 17],o 19 .mov [.t 18],oT 20 19 (.fldA 2) [.t 2],oT 21 19 ld [.t 20],oT 22 19 (.fldA 2) [.t 3],oT 23 19 ld [.t 22],oT 24 19 (.bin .eql .scal) [.t 21,.t 23],o 25 .pick [.t 19,.t 24,cF],o 26 .mov [.t 25],oT 27 26 (.fldA 3) [.t 2],oT 28 26 ld [.t 27],oT 29 26 (.fldA 3) [.t 3],oT 30 26 ld [.t 29],oT 31 26 (.bin .eql .scal) [.t 28,.t 30],o 32 .pick [.t 26,.t 31,cF],o 33 .mov [.t 32],oT 34 33 (.fldA 4) [.t 2],oT 35 33 ld [.t 34],oT 36 33 (.fldA 4) [.t 3],oT 37 33 ld [.t 36],oT 38 33 (.bin .eql .scal) [.t 35,.t 37],o 39 .pick [.t 33,.t 38,cF],o 40 .mov [.t 39],oT 41 40 (.fldA 5) [.t 2],oT 42 40 ld [.t 41],oT 43 40 (.fldA 5) [.t 3],oT 44 40 ld [.t 43],oT 45 40 (.bin .eql .scal) [.t 42,.t 44],o 46 .pick [.t 40,.t 45,cF],o 47 .mov [.t 46],oT 48 47 (.fldA 6) [.t 2],oT 49 47 ld [.t 48],oT 50 47 (.fldA 6) [.t 3],oT 51 47 ld [.t 50],oT 52 47 (.bin .eql .scal) [.t 49,.t 51],o 53 .pick [.t 47,.t 52,cF],o 54 .mov [.t 53],oT 55 54 (.fldA 7) [.t 2],oT 56 54 ld [.t 55],oT 57 54 (.fldA 7) [.t 3],oT 58 54 ld [.t 57],oT 59 54 (.bin .eql .bool) [.t 56,.t 58],o 60 .pick [.t 54,.t 59,cF],o 61 .mov [.t 60],oT 62 61 (.fldA 8) [.t 2],oT 63 61 ld [.t 62],oT 64 61 (.fldA 8) [.t 3],oT 65 61 ld [.t 64],oT 66 61 (.bin .eql .scal) [.t 63,.t 65],o 67 .pick [.t 61,.t 66,cF],o 6 .mov [.t 67]]
 (sr [o 68 .mov [.t 5],o 69 .mov [.t 68],oT 70 69 .mov [.t 6],o 71 .pick [.t 69,.t 70,cF],o 4 .mov [.t 71]]
 .ret))))
theorem i57:J 57 = some (72,[.t 4],ac57):=by kernel_rfl
def ac58_1:AC :=
 sr [o 18 (.bin .lss .scal) [.t 17,.t 16]]
 (.seq (.cond (.t 18)
 .skip
 (.exit 0))
 (.seq (.block 1 (sr [o 19 .mov [.t 17],o 20 (.idxA 1) [.t 15,.t 17],o 21 ld [.t 20],o 7 .mov [.t 19],o 8 .mov [.t 21]]
 (sr [o 22 .mov [.t 1],o 23 .mov [.t 7],o 24 (.idxA 1) [.t 22,.t 23],o 25 ld [.t 24],o 9 .mov [.t 25]]
 (sr [o 26 .mov [.t 2],o 27 .mov [.t 8],o 28 .mov [.t 9],o 29 .callv [.t 26,.t 27,.t 28],o 30 .unNot [.t 29]]
 (.cond (.t 30)
 (sr [o 6 .mov [cF]]
 .ret)
 .skip)))))
 (.reg []
 [o 31 (.bin .add .scal) [.t 17,ci 1],o 17 .mov [.t 31]])))
def ac58:AC :=
 sr [o 6 .mov [cF]]
 (.seq (sr [o 10 .mov [.t 0],o 11 .lenL [.t 10],o 12 .mov [.t 1],o 13 .lenL [.t 12],o 14 (.bin .neq .scal) [.t 11,.t 13]]
 (.cond (.t 14)
 (sr [o 6 .mov [cF]]
 .ret)
 .skip))
 (.seq (sr [o 15 .mov [.t 0],o 16 .lenL [.t 15],o 17 .mov [ci 0]]
 (.block 0 (.loop ac58_1)))
 (sr [o 6 .mov [cT]]
 .ret)))
theorem i58:J 58 = some (32,[.t 6],ac58):=by kernel_rfl
def ac59:AC :=
 sr [o 4 .mov [cF]]
 (sr [o 5 .mov [.t 0],o 6 .mov [.t 1],o 7 (.call 56) [.t 5,.t 6,.f 57],o 4 .mov [.t 7]]
 .ret)
theorem i59:J 59 = some (8,[.t 4],ac59):=by kernel_rfl
def ac60_1:AC :=
 sr [o 18 (.bin .lss .scal) [.t 17,.t 16]]
 (.seq (.cond (.t 18)
 .skip
 (.exit 0))
 (.seq (.block 1 (sr [o 19 .mov [.t 17],o 20 (.idxA 3) [.t 15,.t 17],o 21 (lo 3) [.t 20],o 8 (.alloc [z6,z6,.nils]) [],o 7 .mov [.t 19],oN (.store 3) [.t 8,.t 21]]
 (sr [o 22 .mov [.t 1],o 23 .mov [.t 7],o 24 (.idxA 3) [.t 22,.t 23],o 25 (lo 3) [.t 24],o 9 (.alloc [z6,z6,.nils]) [],oN (.store 3) [.t 9,.t 25]]
 (sr [o 26 .mov [.t 2],o 27 (lo 3) [.t 8],o 28 (lo 3) [.t 9],o 29 .callv [.t 26,.t 27,.t 28],o 30 .unNot [.t 29]]
 (.cond (.t 30)
 (sr [o 6 .mov [cF]]
 .ret)
 .skip)))))
 (.reg []
 [o 31 (.bin .add .scal) [.t 17,ci 1],o 17 .mov [.t 31]])))
def ac60:AC :=
 sr [o 6 .mov [cF]]
 (.seq (sr [o 10 .mov [.t 0],o 11 .lenL [.t 10],o 12 .mov [.t 1],o 13 .lenL [.t 12],o 14 (.bin .neq .scal) [.t 11,.t 13]]
 (.cond (.t 14)
 (sr [o 6 .mov [cF]]
 .ret)
 .skip))
 (.seq (sr [o 15 .mov [.t 0],o 16 .lenL [.t 15],o 17 .mov [ci 0]]
 (.block 0 (.loop ac60_1)))
 (sr [o 6 .mov [cT]]
 .ret)))
theorem i60:J 60 = some (32,[.t 6],ac60):=by kernel_rfl
def ac61:AC :=
 sr [o 2 .box [.t 0],o 3 .box [.t 1],o 4 .mov [cF]]
 (sr [o 5 (.fldA 0) [.t 2],o 6 ld [.t 5],o 7 (.fldA 0) [.t 3],o 8 ld [.t 7],o 9 (.bin .eql .scal) [.t 6,.t 8],o 10 .mov [.t 9],oT 11 10 (.fldA 1) [.t 2],oT 12 10 ld [.t 11],oT 13 10 (.fldA 1) [.t 3],oT 14 10 ld [.t 13],oT 15 10 (.bin .eql .scal) [.t 12,.t 14],o 16 .pick [.t 10,.t 15,cF],o 4 .mov [.t 16]]
 .ret)
theorem i61:J 61 = some (17,[.t 4],ac61):=by kernel_rfl
def ac62_1:AC :=
 sr [o 14 (.bin .lss .scal) [.t 13,.t 12]]
 (.seq (.cond (.t 14)
 .skip
 (.exit 0))
 (.seq (.block 1 (sr [o 15 .mov [.t 13],o 5 .mov [.t 15]]
 (.seq (.reg [[],[],[0,1],[2],[],[],[4,5],[6],[3,7]]
 [o 16 .mov [.t 0],o 17 .mov [.t 5],o 18 (.idxA 3) [.t 16,.t 17],o 19 (lo 3) [.t 18],o 20 .mov [.t 1],o 21 .mov [.t 5],o 22 (.idxA 3) [.t 20,.t 21],o 23 (lo 3) [.t 22],o 24 (.bin .neq (.flat [.int .i64,.int .u32,.int .i64])) [.t 19,.t 23]])
 (.cond (.t 24)
 (sr [o 4 .mov [cF]]
 .ret)
 .skip))))
 (.reg []
 [o 25 (.bin .add .scal) [.t 13,ci 1],o 13 .mov [.t 25]])))
def ac62:AC :=
 sr [o 4 .mov [cF]]
 (.seq (sr [o 6 .mov [.t 0],o 7 .lenL [.t 6],o 8 .mov [.t 1],o 9 .lenL [.t 8],o 10 (.bin .neq .scal) [.t 7,.t 9]]
 (.cond (.t 10)
 (sr [o 4 .mov [cF]]
 .ret)
 .skip))
 (.seq (sr [o 11 .mov [.t 0],o 12 .lenL [.t 11],o 13 .mov [ci 0]]
 (.block 0 (.loop ac62_1)))
 (sr [o 4 .mov [cT]]
 .ret)))
theorem i62:J 62 = some (26,[.t 4],ac62):=by kernel_rfl
def ac63_1:AC :=
 .seq (sr [o 6 .mov [.t 5],o 7 .mov [.t 0],o 8 .lenL [.t 7],o 9 (.bin .lss .scal) [.t 6,.t 8]]
 (.cond (.t 9)
 .skip
 (.exit 0)))
 (.seq (.block 1 (.seq (.reg [[],[],[0,1],[2],[],[3,4]]
 [o 12 .mov [.t 0],o 13 .mov [.t 5],o 14 (.idxA 2) [.t 12,.t 13],o 15 (lo 2) [.t 14],o 16 (lo 2) [.t 3],o 17 (.bin .eql (.flat [.int .u32,.int .i64])) [.t 15,.t 16]])
 (.cond (.t 17)
 (sr [o 18 .mov [.t 0],o 4 .mov [.t 18]]
 .ret)
 .skip)))
 (.reg []
 [o 10 .mov [.t 5],o 11 (.bin .add .scal) [.t 10,ci 1],o 5 .mov [.t 11]]))
def ac63:AC :=
 sr [o 3 .box [.t 1],o 4 .mov [.c .nils]]
 (.seq (sr [o 5 .mov [ci 0]]
 (.block 0 (.loop ac63_1)))
 (sr [o 19 .mov [.t 0],o 20 (lo 2) [.t 3],o 21 (.bslice 2 39) [.t 20],o 22 (.append 2 39 16) [.t 19,.t 21],o 4 .mov [.t 22]]
 .ret))
theorem i63:J 63 = some (23,[.t 4],ac63):=by kernel_rfl
def ac64:AC :=
 sr [o 2 .box [.t 0],o 4 .mov [cF]]
 (sr [o 5 .mov [.t 1],o 6 (.bin .geq .scal) [.t 5,ci 0],o 7 .mov [.t 6],oT 8 7 .mov [.t 1],oT 9 7 (.fldA 0) [.t 2],oT 10 7 ld [.t 9],oT 11 7 .lenL [.t 10],oT 12 7 (.bin .lss .scal) [.t 8,.t 11],o 13 .pick [.t 7,.t 12,cF],o 4 .mov [.t 13]]
 .ret)
theorem i64:J 64 = some (14,[.t 4],ac64):=by kernel_rfl
def ac65:AC :=
 sr [o 2 .mov [cF]]
 (sr [o 3 .mov [.f 98]]
 (sr [o 4 .mov [.t 0],o 5 .mov [.t 3],o 6 (.call 100) [.t 4,.t 5],o 7 .unNot [.t 6],o 8 .mov [.t 7],oT 9 8 .mov [.t 0],oT 10 8 (.call 101) [.t 9,.f 102],o 11 .pick [.t 8,.t 10,cF],o 2 .mov [.t 11]]
 .ret))
theorem i65:J 65 = some (12,[.t 2],ac65):=by kernel_rfl
def ac66:AC :=
 sr [o 4 .mov [cF]]
 (sr [o 5 .mov [.t 0],o 6 .mov [.t 1],o 7 (.call 103) [.t 5,.t 6],o 8 (.bin .geq .scal) [.t 7,ci 0],o 4 .mov [.t 8]]
 .ret)
theorem i66:J 66 = some (9,[.t 4],ac66):=by kernel_rfl
def ac67:AC :=
 sr [o 3 .box [.t 0],o 4 .mov [cF]]
 (sr [o 5 (.fldA 0) [.t 3],o 6 ld [.t 5],o 7 ld [.t 1],o 8 (.bin .eql .scal) [.t 6,.t 7],o 9 .mov [.t 8],oT 10 9 (.fldA 1) [.t 3],oT 11 9 ld [.t 10],oT 12 9 ld [.t 2],oT 13 9 (.bin .eql .scal) [.t 11,.t 12],o 14 .pick [.t 9,.t 13,cF],o 4 .mov [.t 14]]
 .ret)
theorem i67:J 67 = some (15,[.t 4],ac67):=by kernel_rfl
def ac68:AC :=
 sr [o 5 .box [.t 2]]
 (sr [o 9 .mov [.t 1],o 10 (lo 2) [.t 5],o 11 (.build [z6,.int .u32 0,z6] [(0,1),(1,2)]) [.t 9,.t 10],o 6 (.alloc [z6,.int .u32 0,z6]) [],oN (.store 3) [.t 6,.t 11]]
 (.seq (.reg [[],[0],[1],[2],[],[3,4],[5],[6],[6],[7,5,0,1,2,3,4,5,6,7],[8,9,0,1,2,3,4,5,6,7,8,9]]
 [o 13 .mov [.t 0],o 14 .nilchk [.t 13],o 15 (.fldA 3) [.t 14],o 16 ld [.t 15],o 17 (lo 3) [.t 6],o 18 (.call 104) [.t 16,.t 17,.f 105],o 12 .mov [.t 18],o 19 (.ext 0) [.t 12],o 20 (.ext 1) [.t 12],o 7 .mov [.t 19],o 8 .mov [.t 20]])
 (sr [o 21 .mov [.t 8],o 22 .unNot [.t 21]]
 (.cond (.t 22)
 (.reg [[],[],[1],[2],[3],[],[],[6],[4,5,7],[0,0,1,2,3,4,5,6,7,8],[9,0,1,2,3,4,5,6,7,8],[10,8,8,0,1,2,3,4,5,6,7,8]]
 [o 23 .mov [.t 0],o 24 .mov [.t 0],o 25 .nilchk [.t 24],o 26 (.fldA 3) [.t 25],o 27 ld [.t 26],o 28 .mov [.t 7],o 29 (lo 3) [.t 6],o 30 (.bslice 3 108) [.t 29],o 31 (.call 106) [.t 27,.t 28,.t 30],o 32 .nilchk [.t 23],o 33 (.fldA 3) [.t 32],oN (.store 1) [.t 33,.t 31]])
 .skip))))
theorem i68:J 68 = some (34,[],ac68):=by kernel_rfl
def ac69_1:AC :=
 sr [o 30 (.bin .lss .scal) [.t 29,.t 28]]
 (.seq (.cond (.t 30)
 .skip
 (.exit 0))
 (.seq (.block 1 (sr [o 31 (.idxA 10) [.t 27,.t 29],o 32 (lo 10) [.t 31],o 11 (.alloc [.int .u32 0,z6,z6,z6,z6,z6,.int .u32 0,.bool false,z6,.nils]) [],oN (.store 10) [.t 11,.t 32]]
 (sr [o 33 (.fldA 2) [.t 7],o 34 ld [.t 33],o 35 (.bin .eql .scal) [.t 34,ci 0],o 36 .mov [.t 35],oT 37 36 (.fldA 2) [.t 11],oT 38 36 ld [.t 37],oT 39 36 (.bin .eql .scal) [.t 38,ci 1],o 40 .pick [.t 36,.t 39,cF],o 41 .mov [.t 40],oT 42 41 (.fldA 7) [.t 11],oT 43 41 ld [.t 42],oT 44 41 .unNot [.t 43],o 45 .pick [.t 41,.t 44,cF]]
 (.cond (.t 45)
 (.reg []
 [o 46 .mov [.t 9],o 47 .mov [.t 1],o 48 (.fldA 0) [.t 11],o 49 (lo 2) [.t 48],o 50 (.call 68) [.t 46,.t 47,.t 49]])
 .skip))))
 (.reg []
 [o 51 (.bin .add .scal) [.t 29,ci 1],o 29 .mov [.t 51]])))
def ac69:AC :=
 sr [o 4 .box [.t 0],o 6 .box [.t 2],o 7 .box [.t 3],o 8 (.alloc [.nils,.nils,.nils,.nils,.bool false]) []]
 (sr [o 12 (lo 5) [.t 4],o 13 (.call 41) [.t 12],o 9 .mov [.t 13]]
 (.seq (.reg [[],[0],[1],[2],[],[],[3,4,0,1,2,3,4,5],[6,5,0,1,2,3,4,5]]
 [o 14 .mov [.t 9],o 15 .nilchk [.t 14],o 16 (.fldA 0) [.t 15],o 17 ld [.t 16],o 18 .mov [.t 1],o 19 (lo 1) [.t 6],o 20 (.idxA 1) [.t 17,.t 18],oN (.store 1) [.t 20,.t 19]])
 (sr [o 21 .mov [.t 9],o 22 .mov [.t 1],o 23 (.fldA 0) [.t 7],o 24 (lo 2) [.t 23],o 25 (.call 68) [.t 21,.t 22,.t 24]]
 (.seq (sr [o 26 (.fldA 0) [.t 6],o 27 ld [.t 26],o 28 .lenL [.t 27],o 29 .mov [ci 0]]
 (.block 0 (.loop ac69_1)))
 (sr [o 52 .mov [.t 9],o 53 .nilchk [.t 52],o 54 (lo 5) [.t 53],oN (.store 5) [.t 8,.t 54]]
 .ret)))))
theorem i69:J 69 = some (55,[.c 8 (some 5)],ac69):=by kernel_rfl
def ac70:AC :=
 sr [o 6 .mov [.c .nils]]
 (sr [o 8 .mov [.t 0],o 9 .mov [.t 1],o 10 .mov [.t 2],o 11 .mov [.t 0],o 12 .lenL [.t 11],o 13 (.slice3 3) [.t 8,.t 9,.t 10,.t 12]]
 (.seq (sr [o 14 .mov [.t 1],o 15 .mov [.t 2],o 16 (.bin .eql .scal) [.t 14,.t 15]]
 (.cond (.t 16)
 (sr [o 17 .mov [.t 0],o 6 .mov [.t 17]]
 .ret)
 .skip))
 (sr [o 18 .mov [.t 0],o 19 .lenL [.t 18],o 7 .mov [.t 19]]
 (.seq (.reg [[],[],[0,1],[],[],[3,4],[2,5],[6,6,0,1,2,3,4,5,6]]
 [o 20 .mov [.t 0],o 21 .mov [.t 1],o 22 (.slice 3 false true) [.t 20,.t 21],o 23 .mov [.t 0],o 24 .mov [.t 2],o 25 (.slice 3 true false) [.t 23,.t 24],o 26 (.append 3 108 24) [.t 22,.t 25],o 0 .mov [.t 26]])
 (sr [o 27 .mov [.t 0],o 28 .mov [.t 0],o 29 .lenL [.t 28],o 30 .mov [.t 7],o 31 (.slice 3 true true) [.t 27,.t 29,.t 30],⟨none,none,.clear 3 [z6,.int .u32 0,z6],[.t 31]⟩]
 (sr [o 32 .mov [.t 0],o 6 .mov [.t 32]]
 .ret))))))
theorem i70:J 70 = some (33,[.t 6],ac70):=by kernel_rfl
def ac71_1:AC :=
 sr [o 50 (.bin .lss .scal) [.t 49,.t 48]]
 (.seq (.cond (.t 50)
 .skip
 (.exit 0))
 (.seq (.block 1 (sr [o 51 (.idxA 3) [.t 47,.t 49],o 52 (lo 3) [.t 51],o 9 (.alloc [z6,z6,.nils]) [],oN (.store 3) [.t 9,.t 52]]
 (.seq (sr [o 53 (.fldA 0) [.t 9],o 54 ld [.t 53],o 55 ld [.t 4],o 56 (.bin .neq .scal) [.t 54,.t 55]]
 (.cond (.t 56)
 (.exit 1)
 .skip))
 (.seq (.reg [[],[0],[1],[2],[],[4],[3,5],[6],[],[7,8],[],[10,9,9,0,1,2,3,4,5,6,7,8,9,10]]
 [o 57 .mov [.t 0],o 58 .nilchk [.t 57],o 59 (.fldA 0) [.t 58],o 60 ld [.t 59],o 61 (.fldA 1) [.t 9],o 62 ld [.t 61],o 63 (.idxA 1) [.t 60,.t 62],o 64 (lo 1) [.t 63],o 65 (.mkfn 109 0) [.t 4,.t 5],o 66 (.call 42) [.t 64,.t 65],o 10 (.alloc [.nils]) [],oN (.store 1) [.t 10,.t 66]])
 (.seq (sr [o 68 (lo 3) [.t 9],o 69 (lo 10) [.t 6],o 70 (.call 47) [.t 68,.t 69],o 67 .mov [.t 70],o 71 (.ext 0) [.t 67],o 72 (.ext 1) [.t 67],o 11 (.alloc [.int .u32 0,z6,z6,z6,z6,z6,.int .u32 0,.bool false,z6,.nils]) [],oN (.store 10) [.t 11,.t 71],o 12 .mov [.t 72]]
 (sr [o 73 .mov [.t 12],o 74 .mov [.t 73],oT 75 74 .mov [.t 7],o 76 .pick [.t 74,.t 75,cF]]
 (.cond (.t 76)
 (sr [o 78 (lo 1) [.t 10],o 79 (lo 10) [.t 11],o 80 (.call 48) [.t 78,.t 79],o 77 .mov [.t 80],o 81 (.ext 0) [.t 77],o 82 (.ext 1) [.t 77],o 13 (.alloc [.nils]) [],oN (.store 1) [.t 13,.t 81],o 14 .mov [.t 82]]
 (.reg [[],[],[],[2],[3],[4],[5],[6],[7,6],[6,8],[1,6,1],[0,0,1,2,3,4,5,6,7,8,9,10],[11,0,1,2,3,4,5,6,7,8,9,10],[12,9,10,0,1,2,3,4,5,6,7,8,9,10]]
 [o 83 .mov [.t 0],o 84 (lo 1) [.t 13],o 85 .mov [.t 0],o 86 .nilchk [.t 85],o 87 (.fldA 4) [.t 86],o 88 ld [.t 87],o 89 .mov [.t 88],oF 90 89 .mov [.t 14],oF 91 89 (.bin .neq .scal) [.t 90,ci 0],o 92 .pick [.t 89,cT,.t 91],oN (.store 1) [.t 10,.t 84],o 93 .nilchk [.t 83],o 94 (.fldA 4) [.t 93],oN (.store 1) [.t 94,.t 92]]))
 .skip)))
 (.seq (.reg [[],[0],[],[2],[3],[4],[],[6],[5,7],[8],[9],[1,10],[11]]
 [o 95 (.fldA 0) [.t 10],o 96 ld [.t 95],o 97 .mov [.t 0],o 98 .nilchk [.t 97],o 99 (.fldA 0) [.t 98],o 100 ld [.t 99],o 101 (.fldA 1) [.t 9],o 102 ld [.t 101],o 103 (.idxA 1) [.t 100,.t 102],o 104 (.fldA 0) [.t 103],o 105 ld [.t 104],o 106 (.call 56) [.t 96,.t 105,.f 57],o 107 .unNot [.t 106]])
 (.cond (.t 107)
 (.seq (.reg [[],[0],[1],[2],[],[4],[],[3,5,0,1,2,3,4,5,6],[7,6,0,1,2,3,4,5,6]]
 [o 108 .mov [.t 0],o 109 .nilchk [.t 108],o 110 (.fldA 0) [.t 109],o 111 ld [.t 110],o 112 (.fldA 1) [.t 9],o 113 ld [.t 112],o 114 (lo 1) [.t 10],o 115 (.idxA 1) [.t 111,.t 113],oN (.store 1) [.t 115,.t 114]])
 (.reg []
 [o 116 .mov [.t 0],o 117 (.fldA 1) [.t 9],o 118 ld [.t 117],o 119 (lo 2) [.t 5],o 120 (.call 68) [.t 116,.t 118,.t 119]]))
 .skip)))))))
 (.reg []
 [o 121 (.bin .add .scal) [.t 49,ci 1],o 49 .mov [.t 121]])))
def ac71:AC :=
 sr [o 4 .box [.t 1],o 5 .box [.t 2]]
 (.seq (.reg [[],[0],[1],[2],[],[3,4],[5],[],[6,7],[8],[9],[9],[],[12,10,8,0,1,2,3,4,5,6,7,8,9,10,12],[11,13,0,1,2,3,4,5,6,7,8,9,10,11,12,13]]
 [o 16 .mov [.t 0],o 17 .nilchk [.t 16],o 18 (.fldA 0) [.t 17],o 19 ld [.t 18],o 20 ld [.t 4],o 21 (.idxA 1) [.t 19,.t 20],o 22 (lo 1) [.t 21],o 23 (lo 2) [.t 5],o 24 (.call 107) [.t 22,.t 23],o 15 .mov [.t 24],o 25 (.ext 0) [.t 15],o 26 (.ext 1) [.t 15],o 6 (.alloc [.int .u32 0,z6,z6,z6,z6,z6,.int .u32 0,.bool false,z6,.nils]) [],oN (.store 10) [.t 6,.t 25],o 7 .mov [.t 26]])
 (.seq (.reg [[],[0],[1],[2],[],[],[5],[6],[7],[],[8,9],[10],[],[],[],[11,12,13,14],[3,4,0,1,2,3,4,5,6,7,8,9,10,11,12,13,14,15],[16,15,15,0,1,2,3,4,5,6,7,8,9,10,11,12,13,14,15]]
 [o 27 .mov [.t 0],o 28 .nilchk [.t 27],o 29 (.fldA 1) [.t 28],o 30 ld [.t 29],o 31 ld [.t 4],o 32 .mov [.t 0],o 33 .nilchk [.t 32],o 34 (.fldA 1) [.t 33],o 35 ld [.t 34],o 36 ld [.t 4],o 37 (.idxA 1) [.t 35,.t 36],o 38 ld [.t 37],o 39 (lo 2) [.t 5],o 40 (lo 10) [.t 6],o 41 .mov [.t 7],o 42 (.call 108) [.t 38,.t 39,.t 40,.t 41],o 43 (.idxA 1) [.t 30,.t 31],oN (.store 1) [.t 43,.t 42]])
 (sr [o 44 .mov [.t 0],o 45 .nilchk [.t 44],o 46 (.fldA 2) [.t 45],o 47 ld [.t 46],o 48 .lenL [.t 47],o 49 .mov [ci 0]]
 (.block 0 (.loop ac71_1)))))
theorem i71:J 71 = some (122,[],ac71):=by kernel_rfl
def ac74:AC :=
 sr [o 2 .box [.t 0],o 3 .box [.t 1],o 4 (.alloc [.nils]) [],o 5 .mov [cF]]
 (sr [o 9 (.fldA 0) [.t 2],o 10 ld [.t 9],o 11 (lo 10) [.t 3],o 12 (.call 90) [.t 10,.t 11,.f 91],o 8 .mov [.t 12],o 13 (.ext 0) [.t 8],o 14 (.ext 1) [.t 8],o 6 .mov [.t 13],o 7 .mov [.t 14]]
 (.seq (sr [o 15 .mov [.t 7],o 16 .unNot [.t 15]]
 (.cond (.t 16)
 (sr [o 17 (lo 1) [.t 2],oN (.store 1) [.t 4,.t 17],o 5 .mov [cF]]
 .ret)
 .skip))
 (sr [o 18 (.fldA 0) [.t 2],o 19 ld [.t 18],o 20 (.call 85) [.t 19],o 21 .mov [.t 6],o 22 .mov [.t 6],o 23 (.bin .add .scal) [.t 22,ci 1],o 24 (.call 111) [.t 20,.t 21,.t 23],o 25 (.build [.nils] [(0,1)]) [.t 24],oN (.store 1) [.t 4,.t 25],o 5 .mov [cT]]
 .ret)))
theorem i74:J 74 = some (26,[.c 4 (some 1),.t 5],ac74):=by kernel_rfl
def ac75:AC :=
 sr [o 6 .mov [.c .nils]]
 (sr [o 8 .mov [.t 0],o 9 .mov [.t 1],o 10 .mov [.t 2],o 11 .mov [.t 0],o 12 .lenL [.t 11],o 13 (.slice3 3) [.t 8,.t 9,.t 10,.t 12]]
 (.seq (sr [o 14 .mov [.t 1],o 15 .mov [.t 2],o 16 (.bin .eql .scal) [.t 14,.t 15]]
 (.cond (.t 16)
 (sr [o 17 .mov [.t 0],o 6 .mov [.t 17]]
 .ret)
 .skip))
 (sr [o 18 .mov [.t 0],o 19 .lenL [.t 18],o 7 .mov [.t 19]]
 (.seq (.reg [[],[],[0,1],[],[],[3,4],[2,5],[6,6,0,1,2,3,4,5,6]]
 [o 20 .mov [.t 0],o 21 .mov [.t 1],o 22 (.slice 3 false true) [.t 20,.t 21],o 23 .mov [.t 0],o 24 .mov [.t 2],o 25 (.slice 3 true false) [.t 23,.t 24],o 26 (.append 3 84 40) [.t 22,.t 25],o 0 .mov [.t 26]])
 (sr [o 27 .mov [.t 0],o 28 .mov [.t 0],o 29 .lenL [.t 28],o 30 .mov [.t 7],o 31 (.slice 3 true true) [.t 27,.t 29,.t 30],⟨none,none,.clear 3 [z6,z6,.ro 12 []],[.t 31]⟩]
 (sr [o 32 .mov [.t 0],o 6 .mov [.t 32]]
 .ret))))))
theorem i75:J 75 = some (33,[.t 6],ac75):=by kernel_rfl
def ac76:AC :=
 sr [o 2 .box [.t 0],o 3 .mov [cF]]
 (sr [o 4 (lo 10) [.t 2],o 5 (.fldA 0) [.t 1],o 6 ld [.t 5],o 7 (.call 46) [.t 4,.t 6],o 3 .mov [.t 7]]
 .ret)
theorem i76:J 76 = some (8,[.t 3],ac76):=by kernel_rfl
def ac82:AC :=
 sr [o 2 .mov [.c .nils]]
 (.seq (sr [o 3 .mov [.t 0],o 4 (.bin .eql .sl) [.t 3,.c .nils]]
 (.cond (.t 4)
 (sr [o 2 .mov [.c .nils]]
 .ret)
 .skip))
 (sr [o 5 (.bslice 3 84) [],o 6 .mov [.t 0],o 7 (.append 3 84 40) [.t 5,.t 6],o 2 .mov [.t 7]]
 .ret))
theorem i82:J 82 = some (8,[.t 2],ac82):=by kernel_rfl
def ac83:AC :=
 sr [o 2 .mov [.c .nils]]
 (.seq (sr [o 3 .mov [.t 0],o 4 (.bin .eql .sl) [.t 3,.c .nils]]
 (.cond (.t 4)
 (sr [o 2 .mov [.c .nils]]
 .ret)
 .skip))
 (sr [o 5 (.bslice 3 108) [],o 6 .mov [.t 0],o 7 (.append 3 108 24) [.t 5,.t 6],o 2 .mov [.t 7]]
 .ret))
theorem i83:J 83 = some (8,[.t 2],ac83):=by kernel_rfl
def ac84_1:AC :=
 .seq (sr [o 16 .mov [.t 6],o 17 .mov [.t 0],o 18 .lenL [.t 17],o 19 (.bin .lss .scal) [.t 16,.t 18]]
 (.cond (.t 19)
 .skip
 (.exit 0)))
 (.seq (.block 1 (sr [o 22 .mov [.t 0],o 23 .mov [.t 6],o 24 (.idxA 10) [.t 22,.t 23],o 25 (lo 10) [.t 24],o 7 (.alloc [.int .u32 0,z6,z6,z6,z6,z6,.int .u32 0,.bool false,z6,.nils]) [],oN (.store 10) [.t 7,.t 25]]
 (sr [o 26 .mov [.t 1],o 27 (lo 10) [.t 7],o 28 .callv [.t 26,.t 27],o 29 .unNot [.t 28]]
 (.cond (.t 29)
 (sr [o 30 .mov [.t 0],o 31 .mov [.t 5],o 32 (lo 10) [.t 7],o 33 (.idxA 10) [.t 30,.t 31],oN (.store 10) [.t 33,.t 32]]
 (.reg []
 [o 34 .mov [.t 5],o 35 (.bin .add .scal) [.t 34,ci 1],o 5 .mov [.t 35]]))
 .skip))))
 (.reg []
 [o 20 .mov [.t 6],o 21 (.bin .add .scal) [.t 20,ci 1],o 6 .mov [.t 21]]))
def ac84:AC :=
 sr [o 4 .mov [.c .nils]]
 (sr [o 8 .mov [.t 0],o 9 .mov [.t 1],o 10 (.call 115) [.t 8,.t 9],o 5 .mov [.t 10]]
 (.seq (sr [o 11 .mov [.t 5],o 12 (.bin .eql .scal) [.t 11,ci (-1)]]
 (.cond (.t 12)
 (sr [o 13 .mov [.t 0],o 4 .mov [.t 13]]
 .ret)
 .skip))
 (.seq (sr [o 14 .mov [.t 5],o 15 (.bin .add .scal) [.t 14,ci 1],o 6 .mov [.t 15]]
 (.block 0 (.loop ac84_1)))
 (sr [o 36 .mov [.t 0],o 37 .mov [.t 5],o 38 (.slice 10 true false) [.t 36,.t 37],⟨none,none,.clear 10 [.int .u32 0,z6,z6,z6,z6,z6,.int .u32 0,.bool false,z6,.ro 2 []],[.t 38]⟩]
 (sr [o 39 .mov [.t 0],o 40 .mov [.t 5],o 41 (.slice 10 false true) [.t 39,.t 40],o 4 .mov [.t 41]]
 .ret)))))
theorem i84:J 84 = some (42,[.t 4],ac84):=by kernel_rfl
def ac85:AC :=
 sr [o 2 .mov [.c .nils]]
 (.seq (sr [o 3 .mov [.t 0],o 4 (.bin .eql .sl) [.t 3,.c .nils]]
 (.cond (.t 4)
 (sr [o 2 .mov [.c .nils]]
 .ret)
 .skip))
 (sr [o 5 (.bslice 10 42) [],o 6 .mov [.t 0],o 7 (.append 10 42 88) [.t 5,.t 6],o 2 .mov [.t 7]]
 .ret))
theorem i85:J 85 = some (8,[.t 2],ac85):=by kernel_rfl
def ac86:AC :=
 sr [o 1 .box [.t 0],o 2 .mov [.c .nilf]]
 (sr [o 3 (.mkfn 116 0) [.t 1],o 2 .mov [.t 3]]
 .ret)
theorem i86:J 86 = some (4,[.t 2],ac86):=by kernel_rfl
def ac87:AC :=
 sr [o 2 .box [.t 0],o 3 .box [.t 1],o 4 .mov [cF]]
 (sr [o 5 (lo 10) [.t 2],o 6 (lo 10) [.t 3],o 7 (.call 118) [.t 5,.t 6],o 8 (.bin .lss .scal) [.t 7,ci 0],o 4 .mov [.t 8]]
 .ret)
theorem i87:J 87 = some (9,[.t 4],ac87):=by kernel_rfl
def ac88:AC :=
 sr [o 3 .box [.t 1],o 4 (.alloc [.int .u32 0,z6,z6,z6,.int .u32 0]) [],o 5 .mov [cF],o 6 .mov [ci 0]]
 (sr [o 8 .mov [.t 0],o 9 (.mkfn 120 0) [.t 3],o 10 (.call 119) [.t 8,.t 9],o 7 .mov [.t 10]]
 (.seq (.block 0 (sr [o 12 .mov [.t 7],o 13 (.bin .lss .scal) [.t 12,ci 0],o 11 .mov [.t 13]]
 (.cond (.t 11)
 (sr [o 14 (.build [.int .u32 0,z6,z6,z6,.int .u32 0] []) [],oN (.store 5) [.t 4,.t 14],o 5 .mov [cF],o 6 .mov [ci 0]]
 .ret)
 (sr [o 16 .mov [.t 0],o 17 .mov [.t 7],o 18 (.idxA 12) [.t 16,.t 17],o 19 (.fldA 1) [.t 18],o 20 ld [.t 19],o 21 .unNot [.t 20],o 15 .mov [.t 21]]
 (.cond (.t 15)
 (.seq (.reg [[],[],[],[1,2],[3],[4],[0,0],[6,0,6],[5,7,0,1,2,3,4,5,6,7]]
 [o 22 (.build [.int .u32 0,z6,z6,z6,.int .u32 0] []) [],o 23 .mov [.t 0],o 24 .mov [.t 7],o 25 (.idxA 12) [.t 23,.t 24],o 26 (.fldA 0) [.t 25],o 27 ld [.t 26],oN (.store 5) [.t 4,.t 22],o 5 .mov [cF],o 6 .mov [.t 27]])
 .ret)
 .skip)))))
 (.seq (.reg [[],[],[0,1],[2],[],[3,4],[],[],[6,7],[8],[9],[5,5,0,1,2,3,4,5],[11,0,1,2,3,4,5,11],[10,12,0,1,2,3,4,5,6,7,8,9,10,11,12]]
 [o 28 .mov [.t 0],o 29 .mov [.t 7],o 30 (.idxA 12) [.t 28,.t 29],o 31 (lo 12) [.t 30],o 32 (lo 5) [.t 3],o 33 (.call 122) [.t 31,.t 32],o 34 .mov [.t 0],o 35 .mov [.t 7],o 36 (.idxA 12) [.t 34,.t 35],o 37 (.fldA 0) [.t 36],o 38 ld [.t 37],oN (.store 5) [.t 4,.t 33],o 5 .mov [cT],o 6 .mov [.t 38]])
 .ret)))
theorem i88:J 88 = some (39,[.c 4 (some 5),.t 5,.t 6],ac88):=by kernel_rfl
def ac89:AC :=
 sr [o 1 .box [.t 0],o 2 .mov [cF]]
 (sr [o 5 (.fldA 4) [.t 1],o 6 ld [.t 5],o 7 (.call 123) [.t 6,ci 1,ci 255],o 3 .mov [.t 7]]
 (.seq (sr [o 8 (.fldA 2) [.t 1],o 9 ld [.t 8],o 10 (.bin .eql .scal) [.t 9,ci 0]]
 (.cond (.t 10)
 (.reg []
 [o 11 (.fldA 4) [.t 1],o 12 ld [.t 11],o 13 (.bin .eql .scal) [.t 12,ci 0],o 3 .mov [.t 13]])
 .skip))
 (sr [o 14 (.fldA 8) [.t 1],o 15 ld [.t 14],o 16 (.call 123) [.t 15,ci 0,ci 31],o 17 .mov [.t 16],oT 18 17 (.fldA 7) [.t 1],oT 19 17 ld [.t 18],oT 20 17 .mov [.t 19],oF 21 20 (.fldA 8) [.t 1],oF 22 20 ld [.t 21],oF 23 20 (.bin .eql .scal) [.t 22,ci 0],oT 24 17 .pick [.t 20,cT,.t 23],o 25 .pick [.t 17,.t 24,cF],o 4 .mov [.t 25]]
 (sr [o 26 (.fldA 0) [.t 1],o 27 (lo 2) [.t 26],o 28 (.call 124) [.t 27],o 29 .mov [.t 28],oT 30 29 (.fldA 2) [.t 1],oT 31 29 ld [.t 30],oT 32 29 (.call 123) [.t 31,ci 0,ci 5],o 33 .pick [.t 29,.t 32,cF],o 34 .mov [.t 33],oT 35 34 (.fldA 3) [.t 1],oT 36 34 ld [.t 35],oT 37 34 (.call 123) [.t 36,ci 0,ci 99],o 38 .pick [.t 34,.t 37,cF],o 39 .mov [.t 38],oT 40 39 (.fldA 5) [.t 1],oT 41 39 ld [.t 40],oT 42 39 (.bin .geq .scal) [.t 41,ci 0],o 43 .pick [.t 39,.t 42,cF],o 44 .mov [.t 43],oT 45 44 .mov [.t 3],o 46 .pick [.t 44,.t 45,cF],o 47 .mov [.t 46],oT 48 47 .mov [.t 4],o 49 .pick [.t 47,.t 48,cF],o 50 .mov [.t 49],oT 51 50 (.fldA 9) [.t 1],oT 52 50 ld [.t 51],oT 53 50 .lenL [.t 52],oT 54 50 (.call 123) [.t 53,ci 1,ci 8],o 55 .pick [.t 50,.t 54,cF],o 2 .mov [.t 55]]
 .ret))))
theorem i89:J 89 = some (56,[.t 2],ac89):=by kernel_rfl
def ac90_1:AC :=
 .seq (sr [o 15 .mov [.t 9],o 16 .mov [.t 10],o 17 (.bin .lss .scal) [.t 15,.t 16]]
 (.cond (.t 17)
 .skip
 (.exit 0)))
 (.block 1 (sr [o 18 .mov [.t 9],o 19 .mov [.t 10],o 20 (.bin .add .scal) [.t 18,.t 19],o 21 (.conv .u64) [.t 20],o 22 (.bin .shr .scal) [.t 21,.c (.int .u64 1)],o 23 (.conv .i64) [.t 22],o 11 .mov [.t 23]]
 (.seq (.reg [[],[],[],[1,2],[3],[],[0,4,5],[6]]
 [o 24 .mov [.t 2],o 25 .mov [.t 0],o 26 .mov [.t 11],o 27 (.idxA 10) [.t 25,.t 26],o 28 (lo 10) [.t 27],o 29 (lo 10) [.t 4],o 30 .callv [.t 24,.t 28,.t 29],o 31 (.bin .lss .scal) [.t 30,ci 0]])
 (.cond (.t 31)
 (.reg []
 [o 32 .mov [.t 11],o 33 (.bin .add .scal) [.t 32,ci 1],o 9 .mov [.t 33]])
 (.reg []
 [o 34 .mov [.t 11],o 10 .mov [.t 34]])))))
def ac90:AC :=
 sr [o 4 .box [.t 1],o 6 .mov [ci 0],o 7 .mov [cF]]
 (sr [o 12 .mov [.t 0],o 13 .lenL [.t 12],o 8 .mov [.t 13]]
 (sr [o 14 .mov [.t 8],o 9 .mov [ci 0],o 10 .mov [.t 14]]
 (.seq (.block 0 (.loop ac90_1))
 (.seq (.reg [[],[],[],[1,2],[3],[4],[4],[4],[6,7,4],[8,4],[4],[5,9,10,4,4],[11,4],[4,12],[0,11,0],[13,14,0,1,2,3,4,5,6,7,8,9,10,11,12,13,14]]
 [o 35 .mov [.t 9],o 36 .mov [.t 9],o 37 .mov [.t 8],o 38 (.bin .lss .scal) [.t 36,.t 37],o 39 .mov [.t 38],oT 40 39 .mov [.t 2],oT 41 39 .mov [.t 0],oT 42 39 .mov [.t 9],oT 43 39 (.idxA 10) [.t 41,.t 42],oT 44 39 (lo 10) [.t 43],oT 45 39 (lo 10) [.t 4],oT 46 39 .callv [.t 40,.t 44,.t 45],oT 47 39 (.bin .eql .scal) [.t 46,ci 0],o 48 .pick [.t 39,.t 47,cF],o 6 .mov [.t 35],o 7 .mov [.t 48]])
 .ret))))
theorem i90:J 90 = some (49,[.t 6,.t 7],ac90):=by kernel_rfl
def ac91:AC :=
 sr [o 2 .box [.t 0],o 3 .box [.t 1],o 4 .mov [ci 0]]
 (.seq (.reg [[],[0],[1],[],[3],[4],[2,5],[],[7],[8],[],[10],[11],[9,12,6],[],[14,13],[],[16,15],[15,17],[],[19],[],[21],[20,22,17],[],[24],[],[26],[25,27,23],[],[29],[],[31],[30,32,28],[6,13,18,23,28,33],[34,33],[35,35,0,1,2,3,4,5,6,7,8,9,10,11,12,13,14,15,16,17,18,19,20,21,22,23,24,25,26,27,28,29,30,31,32,33,34,35]]
 [o 5 (.fldA 0) [.t 2],o 6 (.fldA 0) [.t 5],o 7 ld [.t 6],o 8 (.fldA 0) [.t 3],o 9 (.fldA 0) [.t 8],o 10 ld [.t 9],o 11 (.call 126) [.t 7,.t 10],o 12 (.fldA 0) [.t 2],o 13 (.fldA 1) [.t 12],o 14 ld [.t 13],o 15 (.fldA 0) [.t 3],o 16 (.fldA 1) [.t 15],o 17 ld [.t 16],o 18 (.call 127) [.t 14,.t 17],o 19 (lo 10) [.t 2],o 20 (.call 128) [.t 19],o 21 (lo 10) [.t 3],o 22 (.call 128) [.t 21],o 23 (.bin .sub .scal) [.t 20,.t 22],o 24 (.fldA 8) [.t 2],o 25 ld [.t 24],o 26 (.fldA 8) [.t 3],o 27 ld [.t 26],o 28 (.call 127) [.t 25,.t 27],o 29 (.fldA 2) [.t 2],o 30 ld [.t 29],o 31 (.fldA 2) [.t 3],o 32 ld [.t 31],o 33 (.call 127) [.t 30,.t 32],o 34 (.fldA 3) [.t 2],o 35 ld [.t 34],o 36 (.fldA 3) [.t 3],o 37 ld [.t 36],o 38 (.call 127) [.t 35,.t 37],o 39 (.bslice 1 3) [.t 11,.t 18,.t 23,.t 28,.t 33,.t 38],o 40 (.call 125) [.t 39],o 4 .mov [.t 40]])
 .ret)
theorem i91:J 91 = some (41,[.t 4],ac91):=by kernel_rfl
def ac92:AC :=
 sr [o 6 .mov [.c .nils]]
 (sr [o 10 .mov [.t 0],o 11 .mov [.t 1],o 12 (.slice 10 true false) [.t 10,.t 11]]
 (sr [o 13 .mov [.t 2],o 14 .lenL [.t 13],o 7 .mov [.t 14]]
 (.seq (sr [o 15 .mov [.t 7],o 16 (.bin .eql .scal) [.t 15,ci 0]]
 (.cond (.t 16)
 (sr [o 17 .mov [.t 0],o 6 .mov [.t 17]]
 .ret)
 .skip))
 (sr [o 18 .mov [.t 0],o 19 .lenL [.t 18],o 8 .mov [.t 19]]
 (.seq (sr [o 20 .mov [.t 1],o 21 .mov [.t 8],o 22 (.bin .eql .scal) [.t 20,.t 21]]
 (.cond (.t 22)
 (sr [o 23 .mov [.t 0],o 24 .mov [.t 2],o 25 (.append 10 42 88) [.t 23,.t 24],o 6 .mov [.t 25]]
 .ret)
 .skip))
 (.seq (sr [o 26 .mov [.t 8],o 27 .mov [.t 7],o 28 (.bin .add .scal) [.t 26,.t 27],o 29 .mov [.t 0],o 30 .capL [.t 29],o 31 (.bin .gtr .scal) [.t 28,.t 30]]
 (.cond (.t 31)
 (sr [o 32 .mov [.t 0],o 33 .mov [.t 1],o 34 (.slice 10 false true) [.t 32,.t 33],o 35 .mov [.t 8],o 36 .mov [.t 7],o 37 (.bin .add .scal) [.t 35,.t 36],o 38 .mov [.t 1],o 39 (.bin .sub .scal) [.t 37,.t 38],o 40 (.appendZ 10 42 88 [.int .u32 0,z6,z6,z6,z6,z6,.int .u32 0,.bool false,z6,.nils]) [.t 34,.t 39],o 9 .mov [.t 40]]
 (sr [o 41 .mov [.t 9],o 42 .mov [.t 1],o 43 (.slice 10 true false) [.t 41,.t 42],o 44 .mov [.t 2],o 45 (.copy 10) [.t 43,.t 44]]
 (.seq (.reg [[],[],[],[1,2],[0,3],[],[],[5,6],[4,7]]
 [o 46 .mov [.t 9],o 47 .mov [.t 1],o 48 .mov [.t 7],o 49 (.bin .add .scal) [.t 47,.t 48],o 50 (.slice 10 true false) [.t 46,.t 49],o 51 .mov [.t 0],o 52 .mov [.t 1],o 53 (.slice 10 true false) [.t 51,.t 52],o 54 (.copy 10) [.t 50,.t 53]])
 (sr [o 55 .mov [.t 9],o 6 .mov [.t 55]]
 .ret))))
 .skip))
 (sr [o 56 .mov [.t 0],o 57 .mov [.t 8],o 58 .mov [.t 7],o 59 (.bin .add .scal) [.t 57,.t 58],o 60 (.slice 10 false true) [.t 56,.t 59],o 0 .mov [.t 60]]
 (.seq (sr [o 61 .mov [.t 2],o 62 .mov [.t 0],o 63 .mov [.t 1],o 64 .mov [.t 7],o 65 (.bin .add .scal) [.t 63,.t 64],o 66 (.slice 10 true false) [.t 62,.t 65],o 67 (.call 129) [.t 61,.t 66],o 68 .unNot [.t 67]]
 (.cond (.t 68)
 (.seq (.reg [[],[],[],[1,2],[0,3],[],[],[5,6],[4,7]]
 [o 69 .mov [.t 0],o 70 .mov [.t 1],o 71 .mov [.t 7],o 72 (.bin .add .scal) [.t 70,.t 71],o 73 (.slice 10 true false) [.t 69,.t 72],o 74 .mov [.t 0],o 75 .mov [.t 1],o 76 (.slice 10 true false) [.t 74,.t 75],o 77 (.copy 10) [.t 73,.t 76]])
 (sr [o 78 .mov [.t 0],o 79 .mov [.t 1],o 80 (.slice 10 true false) [.t 78,.t 79],o 81 .mov [.t 2],o 82 (.copy 10) [.t 80,.t 81]]
 (sr [o 83 .mov [.t 0],o 6 .mov [.t 83]]
 .ret)))
 .skip))
 (sr [o 84 .mov [.t 0],o 85 .mov [.t 8],o 86 (.slice 10 true false) [.t 84,.t 85],o 87 .mov [.t 2],o 88 (.copy 10) [.t 86,.t 87]]
 (sr [o 89 .mov [.t 0],o 90 .mov [.t 1],o 91 (.slice 10 true false) [.t 89,.t 90],o 92 .mov [.t 7],o 93 (.call 130) [.t 91,.t 92]]
 (sr [o 94 .mov [.t 0],o 6 .mov [.t 94]]
 .ret)))))))))))
theorem i92:J 92 = some (95,[.t 6],ac92):=by kernel_rfl
def ac97_1:AC :=
 sr [o 14 (.bin .lss .scal) [.t 13,.t 12]]
 (.seq (.cond (.t 14)
 .skip
 (.exit 0))
 (.seq (.block 1 (sr [o 15 .mov [.t 13],o 5 .mov [.t 15]]
 (.seq (.reg [[],[],[0,1],[2],[],[],[4,5],[6],[3,7]]
 [o 16 .mov [.t 0],o 17 .mov [.t 5],o 18 (.idxA 2) [.t 16,.t 17],o 19 (lo 2) [.t 18],o 20 .mov [.t 1],o 21 .mov [.t 5],o 22 (.idxA 2) [.t 20,.t 21],o 23 (lo 2) [.t 22],o 24 (.bin .neq (.flat [.int .i64,.int .u32])) [.t 19,.t 23]])
 (.cond (.t 24)
 (sr [o 4 .mov [cF]]
 .ret)
 .skip))))
 (.reg []
 [o 25 (.bin .add .scal) [.t 13,ci 1],o 13 .mov [.t 25]])))
def ac97:AC :=
 sr [o 4 .mov [cF]]
 (.seq (sr [o 6 .mov [.t 0],o 7 .lenL [.t 6],o 8 .mov [.t 1],o 9 .lenL [.t 8],o 10 (.bin .neq .scal) [.t 7,.t 9]]
 (.cond (.t 10)
 (sr [o 4 .mov [cF]]
 .ret)
 .skip))
 (.seq (sr [o 11 .mov [.t 0],o 12 .lenL [.t 11],o 13 .mov [ci 0]]
 (.block 0 (.loop ac97_1)))
 (sr [o 4 .mov [cT]]
 .ret)))
theorem i97:J 97 = some (26,[.t 4],ac97):=by kernel_rfl
def ac98:AC :=
 sr [o 1 .box [.t 0],o 2 .mov [cF]]
 (sr [o 3 (lo 12) [.t 1],o 4 (.call 99) [.t 3],o 5 .unNot [.t 4],o 2 .mov [.t 5]]
 .ret)
theorem i98:J 98 = some (6,[.t 2],ac98):=by kernel_rfl
def ac99:AC :=
 sr [o 1 .box [.t 0],o 2 .mov [cF]]
 (sr [o 5 (.fldA 3) [.t 1],o 6 ld [.t 5],o 7 (.call 138) [.t 6,ci (-1),ci 9],o 8 .mov [.t 7],oT 9 8 (.fldA 4) [.t 1],oT 10 8 ld [.t 9],oT 11 8 (.fldA 5) [.t 1],oT 12 8 ld [.t 11],oT 13 8 (.call 138) [.t 10,ci 0,.t 12],o 14 .pick [.t 8,.t 13,cF],o 15 .mov [.t 14],oT 16 15 (.fldA 5) [.t 1],oT 17 15 ld [.t 16],oT 18 15 (.bin .leq .scal) [.t 17,ci 16777215],o 19 .pick [.t 15,.t 18,cF],o 3 .mov [.t 19]]
 (sr [o 20 (.fldA 7) [.t 1],o 21 ld [.t 20],o 22 (.call 138) [.t 21,ci (-1),ci 16777215],o 23 .mov [.t 22],oT 24 23 (.fldA 8) [.t 1],oT 25 23 ld [.t 24],oT 26 23 (.call 138) [.t 25,ci 0,ci 16777215],o 27 .pick [.t 23,.t 26,cF],o 28 .mov [.t 27],oT 29 28 (.fldA 9) [.t 1],oT 30 28 ld [.t 29],oT 31 28 (.call 138) [.t 30,ci (-1),ci 9],o 32 .pick [.t 28,.t 31,cF],o 4 .mov [.t 32]]
 (sr [o 33 (.fldA 0) [.t 1],o 34 ld [.t 33],o 35 (.call 138) [.t 34,ci 1,ci 65535],o 36 .mov [.t 35],oT 37 36 .mov [.t 3],o 38 .pick [.t 36,.t 37,cF],o 39 .mov [.t 38],oT 40 39 .mov [.t 4],o 41 .pick [.t 39,.t 40,cF],o 42 .mov [.t 41],oT 43 42 (.fldA 2) [.t 1],oT 44 42 ld [.t 43],oT 45 42 (.call 139) [.t 44],o 46 .pick [.t 42,.t 45,cF],o 2 .mov [.t 46]]
 .ret)))
theorem i99:J 99 = some (47,[.t 2],ac99):=by kernel_rfl
def ac100:AC :=
 sr [o 4 .mov [cF]]
 (sr [o 5 .mov [.t 0],o 6 .mov [.t 1],o 7 (.call 119) [.t 5,.t 6],o 8 (.bin .geq .scal) [.t 7,ci 0],o 4 .mov [.t 8]]
 .ret)
theorem i100:J 100 = some (9,[.t 4],ac100):=by kernel_rfl
def ac101_1:AC :=
 sr [o 9 (.bin .lss .scal) [.t 8,.t 7]]
 (.seq (.cond (.t 9)
 .skip
 (.exit 0))
 (.seq (.block 1 (sr [o 10 .mov [.t 8],o 5 .mov [.t 10]]
 (.seq (.reg [[],[0],[1],[2],[2],[2],[4,5,2],[6,2],[3,7,2,2],[2],[2],[2],[11,2],[10,12,2],[13,2],[9,14,8,2],[8,15,2],[2,16]]
 [o 11 .mov [.t 5],o 12 (.bin .gtr .scal) [.t 11,ci 0],o 13 .mov [.t 12],oT 14 13 .mov [.t 1],oT 15 13 .mov [.t 0],oT 16 13 .mov [.t 5],oT 17 13 (.idxA 12) [.t 15,.t 16],oT 18 13 (lo 12) [.t 17],oT 19 13 .callv [.t 14,.t 18],oT 20 13 .mov [.t 1],oT 21 13 .mov [.t 0],oT 22 13 .mov [.t 5],oT 23 13 (.bin .sub .scal) [.t 22,ci 1],oT 24 13 (.idxA 12) [.t 21,.t 23],oT 25 13 (lo 12) [.t 24],oT 26 13 .callv [.t 20,.t 25],oT 27 13 (.bin .leq .scal) [.t 19,.t 26],o 28 .pick [.t 13,.t 27,cF]])
 (.cond (.t 28)
 (sr [o 4 .mov [cF]]
 .ret)
 .skip))))
 (.reg []
 [o 29 (.bin .add .scal) [.t 8,ci 1],o 8 .mov [.t 29]])))
def ac101:AC :=
 sr [o 4 .mov [cF]]
 (.seq (sr [o 6 .mov [.t 0],o 7 .lenL [.t 6],o 8 .mov [ci 0]]
 (.block 0 (.loop ac101_1)))
 (sr [o 4 .mov [cT]]
 .ret))
theorem i101:J 101 = some (30,[.t 4],ac101):=by kernel_rfl
def ac102:AC :=
 sr [o 1 .box [.t 0],o 2 .mov [ci 0]]
 (sr [o 3 (.fldA 0) [.t 1],o 4 ld [.t 3],o 2 .mov [.t 4]]
 .ret)
theorem i102:J 102 = some (5,[.t 2],ac102):=by kernel_rfl
def ac103_1:AC :=
 sr [o 9 (.bin .lss .scal) [.t 8,.t 7]]
 (.seq (.cond (.t 9)
 .skip
 (.exit 0))
 (.seq (.block 1 (sr [o 10 .mov [.t 8],o 5 .mov [.t 10]]
 (sr [o 11 .mov [.t 1],o 12 .mov [.t 0],o 13 .mov [.t 5],o 14 (.idxA 3) [.t 12,.t 13],o 15 (lo 3) [.t 14],o 16 .callv [.t 11,.t 15]]
 (.cond (.t 16)
 (sr [o 17 .mov [.t 5],o 4 .mov [.t 17]]
 .ret)
 .skip))))
 (.reg []
 [o 18 (.bin .add .scal) [.t 8,ci 1],o 8 .mov [.t 18]])))
def ac103:AC :=
 sr [o 4 .mov [ci 0]]
 (.seq (sr [o 6 .mov [.t 0],o 7 .lenL [.t 6],o 8 .mov [ci 0]]
 (.block 0 (.loop ac103_1)))
 (sr [o 4 .mov [ci (-1)]]
 .ret))
theorem i103:J 103 = some (19,[.t 4],ac103):=by kernel_rfl
def ac104_1:AC :=
 .seq (sr [o 15 .mov [.t 9],o 16 .mov [.t 10],o 17 (.bin .lss .scal) [.t 15,.t 16]]
 (.cond (.t 17)
 .skip
 (.exit 0)))
 (.block 1 (sr [o 18 .mov [.t 9],o 19 .mov [.t 10],o 20 (.bin .add .scal) [.t 18,.t 19],o 21 (.conv .u64) [.t 20],o 22 (.bin .shr .scal) [.t 21,.c (.int .u64 1)],o 23 (.conv .i64) [.t 22],o 11 .mov [.t 23]]
 (.seq (.reg [[],[],[],[1,2],[3],[],[0,4,5],[6]]
 [o 24 .mov [.t 2],o 25 .mov [.t 0],o 26 .mov [.t 11],o 27 (.idxA 3) [.t 25,.t 26],o 28 (lo 3) [.t 27],o 29 (lo 3) [.t 4],o 30 .callv [.t 24,.t 28,.t 29],o 31 (.bin .lss .scal) [.t 30,ci 0]])
 (.cond (.t 31)
 (.reg []
 [o 32 .mov [.t 11],o 33 (.bin .add .scal) [.t 32,ci 1],o 9 .mov [.t 33]])
 (.reg []
 [o 34 .mov [.t 11],o 10 .mov [.t 34]])))))
def ac104:AC :=
 sr [o 4 .box [.t 1],o 6 .mov [ci 0],o 7 .mov [cF]]
 (sr [o 12 .mov [.t 0],o 13 .lenL [.t 12],o 8 .mov [.t 13]]
 (sr [o 14 .mov [.t 8],o 9 .mov [ci 0],o 10 .mov [.t 14]]
 (.seq (.block 0 (.loop ac104_1))
 (.seq (.reg [[],[],[],[1,2],[3],[4],[4],[4],[6,7,4],[8,4],[4],[5,9,10,4,4],[11,4],[4,12],[0,11,0],[13,14,0,1,2,3,4,5,6,7,8,9,10,11,12,13,14]]
 [o 35 .mov [.t 9],o 36 .mov [.t 9],o 37 .mov [.t 8],o 38 (.bin .lss .scal) [.t 36,.t 37],o 39 .mov [.t 38],oT 40 39 .mov [.t 2],oT 41 39 .mov [.t 0],oT 42 39 .mov [.t 9],oT 43 39 (.idxA 3) [.t 41,.t 42],oT 44 39 (lo 3) [.t 43],oT 45 39 (lo 3) [.t 4],oT 46 39 .callv [.t 40,.t 44,.t 45],oT 47 39 (.bin .eql .scal) [.t 46,ci 0],o 48 .pick [.t 39,.t 47,cF],o 6 .mov [.t 35],o 7 .mov [.t 48]])
 .ret))))
theorem i104:J 104 = some (49,[.t 6,.t 7],ac104):=by kernel_rfl
def ac105:AC :=
 sr [o 2 .box [.t 0],o 3 .box [.t 1],o 4 .mov [ci 0]]
 (.seq (.reg [[],[0],[],[2],[1,3],[],[5],[6],[],[8],[9],[7,10,4],[],[12],[13],[],[15],[16],[14,17,11],[4,11,18],[19,18],[20,20,0,1,2,3,4,5,6,7,8,9,10,11,12,13,14,15,16,17,18,19,20]]
 [o 5 (.fldA 0) [.t 2],o 6 ld [.t 5],o 7 (.fldA 0) [.t 3],o 8 ld [.t 7],o 9 (.call 127) [.t 6,.t 8],o 10 (.fldA 1) [.t 2],o 11 (.fldA 0) [.t 10],o 12 ld [.t 11],o 13 (.fldA 1) [.t 3],o 14 (.fldA 0) [.t 13],o 15 ld [.t 14],o 16 (.call 126) [.t 12,.t 15],o 17 (.fldA 1) [.t 2],o 18 (.fldA 1) [.t 17],o 19 ld [.t 18],o 20 (.fldA 1) [.t 3],o 21 (.fldA 1) [.t 20],o 22 ld [.t 21],o 23 (.call 127) [.t 19,.t 22],o 24 (.bslice 1 3) [.t 9,.t 16,.t 23],o 25 (.call 125) [.t 24],o 4 .mov [.t 25]])
 .ret)
theorem i105:J 105 = some (26,[.t 4],ac105):=by kernel_rfl
def ac106:AC :=
 sr [o 6 .mov [.c .nils]]
 (sr [o 10 .mov [.t 0],o 11 .mov [.t 1],o 12 (.slice 3 true false) [.t 10,.t 11]]
 (sr [o 13 .mov [.t 2],o 14 .lenL [.t 13],o 7 .mov [.t 14]]
 (.seq (sr [o 15 .mov [.t 7],o 16 (.bin .eql .scal) [.t 15,ci 0]]
 (.cond (.t 16)
 (sr [o 17 .mov [.t 0],o 6 .mov [.t 17]]
 .ret)
 .skip))
 (sr [o 18 .mov [.t 0],o 19 .lenL [.t 18],o 8 .mov [.t 19]]
 (.seq (sr [o 20 .mov [.t 1],o 21 .mov [.t 8],o 22 (.bin .eql .scal) [.t 20,.t 21]]
 (.cond (.t 22)
 (sr [o 23 .mov [.t 0],o 24 .mov [.t 2],o 25 (.append 3 108 24) [.t 23,.t 24],o 6 .mov [.t 25]]
 .ret)
 .skip))
 (.seq (sr [o 26 .mov [.t 8],o 27 .mov [.t 7],o 28 (.bin .add .scal) [.t 26,.t 27],o 29 .mov [.t 0],o 30 .capL [.t 29],o 31 (.bin .gtr .scal) [.t 28,.t 30]]
 (.cond (.t 31)
 (sr [o 32 .mov [.t 0],o 33 .mov [.t 1],o 34 (.slice 3 false true) [.t 32,.t 33],o 35 .mov [.t 8],o 36 .mov [.t 7],o 37 (.bin .add .scal) [.t 35,.t 36],o 38 .mov [.t 1],o 39 (.bin .sub .scal) [.t 37,.t 38],o 40 (.appendZ 3 108 24 [z6,.int .u32 0,z6]) [.t 34,.t 39],o 9 .mov [.t 40]]
 (sr [o 41 .mov [.t 9],o 42 .mov [.t 1],o 43 (.slice 3 true false) [.t 41,.t 42],o 44 .mov [.t 2],o 45 (.copy 3) [.t 43,.t 44]]
 (.seq (.reg [[],[],[],[1,2],[0,3],[],[],[5,6],[4,7]]
 [o 46 .mov [.t 9],o 47 .mov [.t 1],o 48 .mov [.t 7],o 49 (.bin .add .scal) [.t 47,.t 48],o 50 (.slice 3 true false) [.t 46,.t 49],o 51 .mov [.t 0],o 52 .mov [.t 1],o 53 (.slice 3 true false) [.t 51,.t 52],o 54 (.copy 3) [.t 50,.t 53]])
 (sr [o 55 .mov [.t 9],o 6 .mov [.t 55]]
 .ret))))
 .skip))
 (sr [o 56 .mov [.t 0],o 57 .mov [.t 8],o 58 .mov [.t 7],o 59 (.bin .add .scal) [.t 57,.t 58],o 60 (.slice 3 false true) [.t 56,.t 59],o 0 .mov [.t 60]]
 (.seq (sr [o 61 .mov [.t 2],o 62 .mov [.t 0],o 63 .mov [.t 1],o 64 .mov [.t 7],o 65 (.bin .add .scal) [.t 63,.t 64],o 66 (.slice 3 true false) [.t 62,.t 65],o 67 (.call 140) [.t 61,.t 66],o 68 .unNot [.t 67]]
 (.cond (.t 68)
 (.seq (.reg [[],[],[],[1,2],[0,3],[],[],[5,6],[4,7]]
 [o 69 .mov [.t 0],o 70 .mov [.t 1],o 71 .mov [.t 7],o 72 (.bin .add .scal) [.t 70,.t 71],o 73 (.slice 3 true false) [.t 69,.t 72],o 74 .mov [.t 0],o 75 .mov [.t 1],o 76 (.slice 3 true false) [.t 74,.t 75],o 77 (.copy 3) [.t 73,.t 76]])
 (sr [o 78 .mov [.t 0],o 79 .mov [.t 1],o 80 (.slice 3 true false) [.t 78,.t 79],o 81 .mov [.t 2],o 82 (.copy 3) [.t 80,.t 81]]
 (sr [o 83 .mov [.t 0],o 6 .mov [.t 83]]
 .ret)))
 .skip))
 (sr [o 84 .mov [.t 0],o 85 .mov [.t 8],o 86 (.slice 3 true false) [.t 84,.t 85],o 87 .mov [.t 2],o 88 (.copy 3) [.t 86,.t 87]]
 (sr [o 89 .mov [.t 0],o 90 .mov [.t 1],o 91 (.slice 3 true false) [.t 89,.t 90],o 92 .mov [.t 7],o 93 (.call 141) [.t 91,.t 92]]
 (sr [o 94 .mov [.t 0],o 6 .mov [.t 94]]
 .ret)))))))))))
theorem i106:J 106 = some (95,[.t 6],ac106):=by kernel_rfl
def ac107:AC :=
 sr [o 2 .box [.t 0],o 3 .box [.t 1],o 4 (.alloc [.int .u32 0,z6,z6,z6,z6,z6,.int .u32 0,.bool false,z6,.nils]) [],o 5 .mov [cF]]
 (sr [o 8 (lo 1) [.t 2],o 9 (.call 44) [.t 8],o 6 .mov [.t 9]]
 (sr [o 10 .mov [.t 6],o 11 (.mkfn 142 0) [.t 3],o 12 (.call 115) [.t 10,.t 11],o 7 .mov [.t 12]]
 (.seq (sr [o 13 .mov [.t 7],o 14 (.bin .lss .scal) [.t 13,ci 0]]
 (.cond (.t 14)
 (sr [o 15 (.build [.int .u32 0,z6,z6,z6,z6,z6,.int .u32 0,.bool false,z6,.nils] []) [],oN (.store 10) [.t 4,.t 15],o 5 .mov [cF]]
 .ret)
 .skip))
 (sr [o 16 .mov [.t 6],o 17 .mov [.t 7],o 18 (.idxA 10) [.t 16,.t 17],o 19 (lo 10) [.t 18],oN (.store 10) [.t 4,.t 19],o 5 .mov [cT]]
 .ret))))
theorem i107:J 107 = some (20,[.c 4 (some 10),.t 5],ac107):=by kernel_rfl
def ac108:AC :=
 sr [o 5 .box [.t 1],o 6 .box [.t 2],o 8 .mov [.c .nils]]
 (sr [o 12 .mov [.t 0],o 13 (lo 2) [.t 5],o 14 (.call 143) [.t 12,.t 13,.f 144],o 11 .mov [.t 14],o 15 (.ext 0) [.t 11],o 16 (.ext 1) [.t 11],o 9 .mov [.t 15],o 10 .mov [.t 16]]
 (sr [o 17 .mov [.t 0],o 18 (.call 85) [.t 17],o 0 .mov [.t 18]]
 (.seq (.block 0 (sr [o 20 .mov [.t 10],o 21 .mov [.t 20],oT 22 21 .mov [.t 3],o 23 .pick [.t 21,.t 22,cF],o 19 .mov [.t 23]]
 (.cond (.t 19)
 (.reg []
 [o 24 .mov [.t 0],o 25 .mov [.t 9],o 26 (lo 10) [.t 6],o 27 (.idxA 10) [.t 24,.t 25],oN (.store 10) [.t 27,.t 26]])
 (sr [o 29 .mov [.t 10],o 28 .mov [.t 29]]
 (.cond (.t 28)
 (.reg []
 [o 30 .mov [.t 0],o 31 .mov [.t 9],o 32 .mov [.t 9],o 33 (.bin .add .scal) [.t 32,ci 1],o 34 (.call 111) [.t 30,.t 31,.t 33],o 0 .mov [.t 34]])
 (sr [o 36 .mov [.t 3],o 35 .mov [.t 36]]
 (.cond (.t 35)
 (.reg []
 [o 37 .mov [.t 0],o 38 .mov [.t 9],o 39 (lo 10) [.t 6],o 40 (.bslice 10 42) [.t 39],o 41 (.call 92) [.t 37,.t 38,.t 40],o 0 .mov [.t 41]])
 .skip)))))))
 (sr [o 42 .mov [.t 0],o 8 .mov [.t 42]]
 .ret))))
theorem i108:J 108 = some (43,[.t 8],ac108):=by kernel_rfl
def ac109:AC :=
 sr [o 3 .box [.t 0],o 4 .mov [cF]]
 (sr [o 5 (lo 10) [.t 3],o 6 ld [.t 1],o 7 (.call 46) [.t 5,.t 6],o 8 .mov [.t 7],oT 9 8 (.fldA 0) [.t 3],oT 10 8 (lo 2) [.t 9],oT 11 8 (lo 2) [.t 2],⟨some 12,some (8,true),.bin .eql (.flat [.int .u32,.int .i64]),[.t 10,.t 11]⟩,o 13 .pick [.t 8,.t 12,cF],o 4 .mov [.t 13]]
 .ret)
theorem i109:J 109 = some (14,[.t 4],ac109):=by kernel_rfl
def ac111:AC :=
 sr [o 6 .mov [.c .nils]]
 (sr [o 8 .mov [.t 0],o 9 .mov [.t 1],o 10 .mov [.t 2],o 11 .mov [.t 0],o 12 .lenL [.t 11],o 13 (.slice3 10) [.t 8,.t 9,.t 10,.t 12]]
 (.seq (sr [o 14 .mov [.t 1],o 15 .mov [.t 2],o 16 (.bin .eql .scal) [.t 14,.t 15]]
 (.cond (.t 16)
 (sr [o 17 .mov [.t 0],o 6 .mov [.t 17]]
 .ret)
 .skip))
 (sr [o 18 .mov [.t 0],o 19 .lenL [.t 18],o 7 .mov [.t 19]]
 (.seq (.reg [[],[],[0,1],[],[],[3,4],[2,5],[6,6,0,1,2,3,4,5,6]]
 [o 20 .mov [.t 0],o 21 .mov [.t 1],o 22 (.slice 10 false true) [.t 20,.t 21],o 23 .mov [.t 0],o 24 .mov [.t 2],o 25 (.slice 10 true false) [.t 23,.t 24],o 26 (.append 10 42 88) [.t 22,.t 25],o 0 .mov [.t 26]])
 (sr [o 27 .mov [.t 0],o 28 .mov [.t 0],o 29 .lenL [.t 28],o 30 .mov [.t 7],o 31 (.slice 10 true true) [.t 27,.t 29,.t 30],⟨none,none,.clear 10 [.int .u32 0,z6,z6,z6,z6,z6,.int .u32 0,.bool false,z6,.ro 2 []],[.t 31]⟩]
 (sr [o 32 .mov [.t 0],o 6 .mov [.t 32]]
 .ret))))))
theorem i111:J 111 = some (33,[.t 6],ac111):=by kernel_rfl
def ac115_1:AC :=
 sr [o 9 (.bin .lss .scal) [.t 8,.t 7]]
 (.seq (.cond (.t 9)
 .skip
 (.exit 0))
 (.seq (.block 1 (sr [o 10 .mov [.t 8],o 5 .mov [.t 10]]
 (sr [o 11 .mov [.t 1],o 12 .mov [.t 0],o 13 .mov [.t 5],o 14 (.idxA 10) [.t 12,.t 13],o 15 (lo 10) [.t 14],o 16 .callv [.t 11,.t 15]]
 (.cond (.t 16)
 (sr [o 17 .mov [.t 5],o 4 .mov [.t 17]]
 .ret)
 .skip))))
 (.reg []
 [o 18 (.bin .add .scal) [.t 8,ci 1],o 8 .mov [.t 18]])))
def ac115:AC :=
 sr [o 4 .mov [ci 0]]
 (.seq (sr [o 6 .mov [.t 0],o 7 .lenL [.t 6],o 8 .mov [ci 0]]
 (.block 0 (.loop ac115_1)))
 (sr [o 4 .mov [ci (-1)]]
 .ret))
theorem i115:J 115 = some (19,[.t 4],ac115):=by kernel_rfl
def ac116_1:AC :=
 sr [o 11 (.bin .lss .scal) [.t 10,.t 9]]
 (.seq (.cond (.t 11)
 .skip
 (.exit 0))
 (.seq (.block 1 (sr [o 12 (.idxA 10) [.t 8,.t 10],o 13 (lo 10) [.t 12],o 4 (.alloc [.int .u32 0,z6,z6,z6,z6,z6,.int .u32 0,.bool false,z6,.nils]) [],oN (.store 10) [.t 4,.t 13]]
 (sr [o 15 (lo 1) [.t 1],o 16 (lo 10) [.t 4],o 17 (.call 117) [.t 15,.t 16],o 14 .mov [.t 17],o 18 (.ext 0) [.t 14],o 19 (.ext 1) [.t 14],o 5 (.alloc [.int .u32 0,z6,z6,z6,z6,z6,.int .u32 0,.bool false,z6,.nils]) [],oN (.store 10) [.t 5,.t 18],o 6 .mov [.t 19]]
 (sr [o 20 .mov [.t 6],o 21 .mov [.t 20],oT 22 21 .mov [.t 0],oT 23 21 (lo 10) [.t 5],oT 24 21 .callv [.t 22,.t 23],oT 25 21 .unNot [.t 24],o 26 .pick [.t 21,.t 25,cF]]
 (.cond (.t 26)
 .ret
 .skip)))))
 (.reg []
 [o 27 (.bin .add .scal) [.t 10,ci 1],o 10 .mov [.t 27]])))
def ac116:AC :=
 sr [o 7 (.fldA 0) [.t 1],o 8 ld [.t 7],o 9 .lenL [.t 8],o 10 .mov [ci 0]]
 (.block 0 (.loop ac116_1))
def ac117_1:AC :=
 sr [o 23 (.bin .lss .scal) [.t 22,.t 21]]
 (.seq (.cond (.t 23)
 .skip
 (.exit 0))
 (.seq (.block 1 (sr [o 24 (.idxA 2) [.t 20,.t 22],o 25 (lo 2) [.t 24],o 8 (.alloc [z6,.int .u32 0]) [],oN (.store 2) [.t 8,.t 25]]
 (sr [o 27 (lo 1) [.t 2],o 28 (lo 2) [.t 8],o 29 (.call 148) [.t 27,.t 28],o 26 .mov [.t 29],o 30 (.ext 0) [.t 26],o 31 (.ext 1) [.t 26],o 9 (.alloc [z6,.int .u32 0]) [],oN (.store 2) [.t 9,.t 30],o 10 .mov [.t 31]]
 (sr [o 32 .mov [.t 10]]
 (.cond (.t 32)
 (.reg []
 [o 33 .mov [.t 6],o 34 (lo 2) [.t 9],o 35 (.bslice 2 81) [.t 34],o 36 (.append 2 81 16) [.t 33,.t 35],o 6 .mov [.t 36]])
 .skip)))))
 (.reg []
 [o 37 (.bin .add .scal) [.t 22,ci 1],o 22 .mov [.t 37]])))
def ac117:AC :=
 sr [o 2 .box [.t 0],o 3 .box [.t 1],o 4 (.alloc [.int .u32 0,z6,z6,z6,z6,z6,.int .u32 0,.bool false,z6,.nils]) [],o 5 .mov [cF]]
 (.seq (sr [o 11 (.fldA 2) [.t 3],o 12 ld [.t 11],o 13 (.bin .neq .scal) [.t 12,ci 1],o 14 .mov [.t 13],oF 15 14 (.fldA 7) [.t 3],oF 16 14 ld [.t 15],o 17 .pick [.t 14,cT,.t 16]]
 (.cond (.t 17)
 (sr [o 18 (lo 10) [.t 3],oN (.store 10) [.t 4,.t 18],o 5 .mov [cT]]
 .ret)
 .skip))
 (sr [o 6 .mov [.c .nils]]
 (.seq (sr [o 19 (.fldA 9) [.t 3],o 20 ld [.t 19],o 21 .lenL [.t 20],o 22 .mov [ci 0]]
 (.block 0 (.loop ac117_1)))
 (.seq (sr [o 38 .mov [.t 6],o 39 .lenL [.t 38],o 40 (.bin .eql .scal) [.t 39,ci 0]]
 (.cond (.t 40)
 (sr [o 41 (.build [.int .u32 0,z6,z6,z6,z6,z6,.int .u32 0,.bool false,z6,.nils] []) [],oN (.store 10) [.t 4,.t 41],o 5 .mov [cF]]
 .ret)
 .skip))
 (sr [o 42 .mov [.t 6],o 43 (.fldA 9) [.t 3],oN (.store 1) [.t 43,.t 42]]
 (sr [o 44 (lo 10) [.t 3],oN (.store 10) [.t 4,.t 44],o 5 .mov [cT]]
 .ret))))))
theorem i117:J 117 = some (45,[.c 4 (some 10),.t 5],ac117):=by kernel_rfl
def ac118:AC :=
 sr [o 2 .box [.t 0],o 3 .box [.t 1],o 4 .mov [ci 0]]
 (.seq (.reg [[],[0],[],[2],[1,3],[],[5,4],[],[7,6],[6,8],[],[10],[],[12],[11,13,8],[],[15],[],[17],[16,18,14],[],[20],[],[22],[21,23,19],[],[25],[],[27],[26,28,24],[4,9,14,19,24,29],[30,29],[31,31,0,1,2,3,4,5,6,7,8,9,10,11,12,13,14,15,16,17,18,19,20,21,22,23,24,25,26,27,28,29,30,31]]
 [o 5 (.fldA 4) [.t 2],o 6 ld [.t 5],o 7 (.fldA 4) [.t 3],o 8 ld [.t 7],o 9 (.call 127) [.t 6,.t 8],o 10 (lo 10) [.t 2],o 11 (.call 128) [.t 10],o 12 (lo 10) [.t 3],o 13 (.call 128) [.t 12],o 14 (.bin .sub .scal) [.t 11,.t 13],o 15 (.fldA 2) [.t 2],o 16 ld [.t 15],o 17 (.fldA 2) [.t 3],o 18 ld [.t 17],o 19 (.call 127) [.t 16,.t 18],o 20 (.fldA 5) [.t 2],o 21 ld [.t 20],o 22 (.fldA 5) [.t 3],o 23 ld [.t 22],o 24 (.call 127) [.t 21,.t 23],o 25 (.fldA 3) [.t 2],o 26 ld [.t 25],o 27 (.fldA 3) [.t 3],o 28 ld [.t 27],o 29 (.call 127) [.t 26,.t 28],o 30 (.fldA 8) [.t 2],o 31 ld [.t 30],o 32 (.fldA 8) [.t 3],o 33 ld [.t 32],o 34 (.call 127) [.t 31,.t 33],o 35 (.bslice 1 3) [.t 9,.t 14,.t 19,.t 24,.t 29,.t 34],o 36 (.call 125) [.t 35],o 4 .mov [.t 36]])
 .ret)
theorem i118:J 118 = some (37,[.t 4],ac118):=by kernel_rfl
def ac119_1:AC :=
 sr [o 9 (.bin .lss .scal) [.t 8,.t 7]]
 (.seq (.cond (.t 9)
 .skip
 (.exit 0))
 (.seq (.block 1 (sr [o 10 .mov [.t 8],o 5 .mov [.t 10]]
 (sr [o 11 .mov [.t 1],o 12 .mov [.t 0],o 13 .mov [.t 5],o 14 (.idxA 12) [.t 12,.t 13],o 15 (lo 12) [.t 14],o 16 .callv [.t 11,.t 15]]
 (.cond (.t 16)
 (sr [o 17 .mov [.t 5],o 4 .mov [.t 17]]
 .ret)
 .skip))))
 (.reg []
 [o 18 (.bin .add .scal) [.t 8,ci 1],o 8 .mov [.t 18]])))
def ac119:AC :=
 sr [o 4 .mov [ci 0]]
 (.seq (sr [o 6 .mov [.t 0],o 7 .lenL [.t 6],o 8 .mov [ci 0]]
 (.block 0 (.loop ac119_1)))
 (sr [o 4 .mov [ci (-1)]]
 .ret))
theorem i119:J 119 = some (19,[.t 4],ac119):=by kernel_rfl
def ac120:AC :=
 sr [o 2 .box [.t 0],o 3 .mov [cF]]
 (sr [o 4 (lo 12) [.t 2],o 5 (lo 5) [.t 1],o 6 (.call 121) [.t 4,.t 5],o 3 .mov [.t 6]]
 .ret)
theorem i120:J 120 = some (7,[.t 3],ac120):=by kernel_rfl
def ac121:AC :=
 sr [o 2 .box [.t 0],o 3 .box [.t 1],o 4 .mov [cF]]
 (sr [o 5 .mov [cT]]
 (.seq (sr [o 8 (.fldA 2) [.t 2],o 9 ld [.t 8],o 10 .lenL [.t 9],o 11 (.bin .gtr .scal) [.t 10,ci 0]]
 (.cond (.t 11)
 (.reg []
 [o 13 (.fldA 2) [.t 2],o 14 ld [.t 13],o 15 (.fldA 0) [.t 3],o 16 (lo 2) [.t 15],o 17 (.call 149) [.t 14,.t 16],o 12 .mov [.t 17],o 18 (.ext 0) [.t 12],o 19 (.ext 1) [.t 12],o 5 .mov [.t 18]])
 .skip))
 (sr [o 20 (.fldA 3) [.t 2],o 21 ld [.t 20],o 22 (.bin .eql .scal) [.t 21,ci (-1)],o 23 .mov [.t 22],oF 24 23 (.fldA 3) [.t 2],oF 25 23 ld [.t 24],oF 26 23 (.fldA 2) [.t 3],oF 27 23 ld [.t 26],oF 28 23 (.bin .eql .scal) [.t 25,.t 27],o 29 .pick [.t 23,cT,.t 28],o 6 .mov [.t 29]]
 (sr [o 30 (.fldA 6) [.t 2],o 31 ld [.t 30],o 32 .lenL [.t 31],o 33 (.bin .eql .scal) [.t 32,ci 0],o 34 .mov [.t 33],oF 35 34 (.fldA 6) [.t 2],oF 36 34 ld [.t 35],oF 37 34 (.fldA 4) [.t 3],oF 38 34 ld [.t 37],oF 39 34 (.call 150) [.t 36,.t 38],o 40 .pick [.t 34,cT,.t 39],o 7 .mov [.t 40]]
 (sr [o 41 .mov [.t 5],o 42 .mov [.t 41],oT 43 42 .mov [.t 6],o 44 .pick [.t 42,.t 43,cF],o 45 .mov [.t 44],oT 46 45 .mov [.t 7],o 47 .pick [.t 45,.t 46,cF],o 48 .mov [.t 47],oT 49 48 (.fldA 3) [.t 3],oT 50 48 ld [.t 49],oT 51 48 (.fldA 4) [.t 2],oT 52 48 ld [.t 51],oT 53 48 (.fldA 5) [.t 2],oT 54 48 ld [.t 53],oT 55 48 (.call 138) [.t 50,.t 52,.t 54],o 56 .pick [.t 48,.t 55,cF],o 4 .mov [.t 56]]
 .ret)))))
theorem i121:J 121 = some (57,[.t 4],ac121):=by kernel_rfl
def ac122:AC :=
 sr [o 2 .box [.t 0],o 3 .box [.t 1],o 4 (.alloc [.int .u32 0,z6,z6,z6,.int .u32 0]) []]
 (.seq (sr [o 5 (.fldA 7) [.t 2],o 6 ld [.t 5],o 7 (.bin .neq .scal) [.t 6,ci (-1)]]
 (.cond (.t 7)
 (.reg []
 [o 8 (.fldA 7) [.t 2],o 9 ld [.t 8],o 10 (.fldA 3) [.t 3],oN (.store 1) [.t 10,.t 9]])
 .skip))
 (.seq (sr [o 11 (.fldA 9) [.t 2],o 12 ld [.t 11],o 13 (.bin .neq .scal) [.t 12,ci (-1)]]
 (.cond (.t 13)
 (.reg []
 [o 14 (.fldA 9) [.t 2],o 15 ld [.t 14],o 16 (.fldA 2) [.t 3],oN (.store 1) [.t 16,.t 15]])
 .skip))
 (.seq (sr [o 17 (.fldA 10) [.t 2],o 18 ld [.t 17]]
 (.cond (.t 18)
 (.reg []
 [o 19 (.fldA 11) [.t 2],o 20 ld [.t 19],o 21 (.fldA 4) [.t 3],oN (.store 1) [.t 21,.t 20]])
 .skip))
 (sr [o 22 (.fldA 3) [.t 3],o 23 ld [.t 22],o 24 (.fldA 8) [.t 2],o 25 ld [.t 24],o 26 (.bin .add .scal) [.t 23,.t 25],o 27 (.minmax false) [.t 26,ci 16777215],o 28 (.fldA 3) [.t 3],oN (.store 1) [.t 28,.t 27]]
 (sr [o 29 (lo 5) [.t 3],oN (.store 5) [.t 4,.t 29]]
 .ret)))))
theorem i122:J 122 = some (30,[.c 4 (some 5)],ac122):=by kernel_rfl
def ac123:AC :=
 sr [o 6 .mov [cF]]
 (sr [o 7 .mov [.t 1],o 8 .mov [.t 0],o 9 (.bin .leq .scal) [.t 7,.t 8],o 10 .mov [.t 9],oT 11 10 .mov [.t 0],oT 12 10 .mov [.t 2],oT 13 10 (.bin .leq .scal) [.t 11,.t 12],o 14 .pick [.t 10,.t 13,cF],o 6 .mov [.t 14]]
 .ret)
theorem i123:J 123 = some (15,[.t 6],ac123):=by kernel_rfl
def ac124:AC :=
 sr [o 1 .box [.t 0],o 2 .mov [cF]]
 (.seq (.reg [[],[0],[1],[2,2],[3],[4,3],[3],[6,3],[7,3,3],[5,8,3],[9,3],[3,10],[11,8,0,1,2,3,4,5,6,7,8,9,10,11]]
 [o 3 (.fldA 1) [.t 1],o 4 ld [.t 3],o 5 (.call 151) [.t 4],o 6 .mov [.t 5],oT 7 6 (.fldA 0) [.t 1],oT 8 6 ld [.t 7],oT 9 6 (.fldA 1) [.t 1],oT 10 6 ld [.t 9],oT 11 6 (.call 152) [.t 10],oT 12 6 (.bin .andNot .scal) [.t 8,.t 11],oT 13 6 (.bin .eql .scal) [.t 12,.c (.int .u32 0)],o 14 .pick [.t 6,.t 13,cF],o 2 .mov [.t 14]])
 .ret)
theorem i124:J 124 = some (15,[.t 2],ac124):=by kernel_rfl
def ac125_1:AC :=
 sr [o 9 (.bin .lss .scal) [.t 8,.t 7]]
 (.seq (.cond (.t 9)
 .skip
 (.exit 0))
 (.seq (.block 1 (sr [o 10 (.idxA 1) [.t 6,.t 8],o 11 ld [.t 10],o 5 .mov [.t 11]]
 (sr [o 12 .mov [.t 5],o 13 .mov [.t 3],o 14 (.bin .neq .scal) [.t 12,.t 13]]
 (.cond (.t 14)
 (sr [o 15 .mov [.t 5],o 2 .mov [.t 15]]
 .ret)
 .skip))))
 (.reg []
 [o 16 (.bin .add .scal) [.t 8,ci 1],o 8 .mov [.t 16]])))
def ac125:AC :=
 sr [o 2 .mov [ci 0]]
 (sr [o 3 .mov [ci 0]]
 (.seq (sr [o 6 .mov [.t 0],o 7 .lenL [.t 6],o 8 .mov [ci 0]]
 (.block 0 (.loop ac125_1)))
 (sr [o 17 .mov [.t 3],o 2 .mov [.t 17]]
 .ret)))
theorem i125:J 125 = some (18,[.t 2],ac125):=by kernel_rfl
def ac126:AC :=
 sr [o 4 .mov [ci 0]]
 (sr [o 7 .mov [.t 0],o 8 (.call 153) [.t 7],o 5 .mov [.t 8]]
 (sr [o 9 .mov [.t 1],o 10 (.call 153) [.t 9],o 6 .mov [.t 10]]
 (.seq (sr [o 11 .mov [.t 5]]
 (.cond (.t 11)
 (.seq (sr [o 12 .mov [.t 6]]
 (.cond (.t 12)
 (sr [o 4 .mov [ci 0]]
 .ret)
 .skip))
 (sr [o 4 .mov [ci (-1)]]
 .ret))
 .skip))
 (.seq (sr [o 13 .mov [.t 6]]
 (.cond (.t 13)
 (sr [o 4 .mov [ci 1]]
 .ret)
 .skip))
 (.seq (sr [o 14 .mov [.t 0],o 15 .mov [.t 1],o 16 (.bin .lss .scal) [.t 14,.t 15]]
 (.cond (.t 16)
 (sr [o 4 .mov [ci (-1)]]
 .ret)
 .skip))
 (.seq (sr [o 17 .mov [.t 0],o 18 .mov [.t 1],o 19 (.bin .gtr .scal) [.t 17,.t 18]]
 (.cond (.t 19)
 (sr [o 4 .mov [ci 1]]
 .ret)
 .skip))
 (sr [o 4 .mov [ci 0]]
 .ret)))))))
theorem i126:J 126 = some (20,[.t 4],ac126):=by kernel_rfl
def ac127:AC :=
 sr [o 4 .mov [ci 0]]
 (sr [o 7 .mov [.t 0],o 8 (.call 154) [.t 7],o 5 .mov [.t 8]]
 (sr [o 9 .mov [.t 1],o 10 (.call 154) [.t 9],o 6 .mov [.t 10]]
 (.seq (sr [o 11 .mov [.t 5]]
 (.cond (.t 11)
 (.seq (sr [o 12 .mov [.t 6]]
 (.cond (.t 12)
 (sr [o 4 .mov [ci 0]]
 .ret)
 .skip))
 (sr [o 4 .mov [ci (-1)]]
 .ret))
 .skip))
 (.seq (sr [o 13 .mov [.t 6]]
 (.cond (.t 13)
 (sr [o 4 .mov [ci 1]]
 .ret)
 .skip))
 (.seq (sr [o 14 .mov [.t 0],o 15 .mov [.t 1],o 16 (.bin .lss .scal) [.t 14,.t 15]]
 (.cond (.t 16)
 (sr [o 4 .mov [ci (-1)]]
 .ret)
 .skip))
 (.seq (sr [o 17 .mov [.t 0],o 18 .mov [.t 1],o 19 (.bin .gtr .scal) [.t 17,.t 18]]
 (.cond (.t 19)
 (sr [o 4 .mov [ci 1]]
 .ret)
 .skip))
 (sr [o 4 .mov [ci 0]]
 .ret)))))))
theorem i127:J 127 = some (20,[.t 4],ac127):=by kernel_rfl
def ac128:AC :=
 sr [o 1 .box [.t 0],o 2 .mov [ci 0]]
 (.seq (sr [o 3 (.fldA 7) [.t 1],o 4 ld [.t 3]]
 (.cond (.t 4)
 (sr [o 2 .mov [ci 1]]
 .ret)
 .skip))
 (sr [o 2 .mov [ci 0]]
 .ret))
theorem i128:J 128 = some (5,[.t 2],ac128):=by kernel_rfl
def ac138:AC :=
 sr [o 6 .mov [cF]]
 (sr [o 7 .mov [.t 1],o 8 .mov [.t 0],o 9 (.bin .leq .scal) [.t 7,.t 8],o 10 .mov [.t 9],oT 11 10 .mov [.t 0],oT 12 10 .mov [.t 2],oT 13 10 (.bin .leq .scal) [.t 11,.t 12],o 14 .pick [.t 10,.t 13,cF],o 6 .mov [.t 14]]
 .ret)
theorem i138:J 138 = some (15,[.t 6],ac138):=by kernel_rfl
def ac139:AC :=
 sr [o 2 .mov [cF]]
 (sr [o 3 .mov [.f 160]]
 (sr [o 4 .mov [.t 0],o 5 .mov [.t 3],o 6 (.call 162) [.t 4,.t 5],o 7 .unNot [.t 6],o 8 .mov [.t 7],oT 9 8 .mov [.t 0],oT 10 8 (.call 163) [.t 9,.f 164],o 11 .pick [.t 8,.t 10,cF],o 2 .mov [.t 11]]
 .ret))
theorem i139:J 139 = some (12,[.t 2],ac139):=by kernel_rfl
def ac142:AC :=
 sr [o 2 .box [.t 0],o 3 .mov [cF]]
 (sr [o 4 (.fldA 0) [.t 2],o 5 (lo 2) [.t 4],o 6 (lo 2) [.t 1],o 7 (.bin .eql (.flat [.int .u32,.int .i64])) [.t 5,.t 6],o 3 .mov [.t 7]]
 .ret)
theorem i142:J 142 = some (8,[.t 3],ac142):=by kernel_rfl
def ac143_1:AC :=
 .seq (sr [o 15 .mov [.t 9],o 16 .mov [.t 10],o 17 (.bin .lss .scal) [.t 15,.t 16]]
 (.cond (.t 17)
 .skip
 (.exit 0)))
 (.block 1 (sr [o 18 .mov [.t 9],o 19 .mov [.t 10],o 20 (.bin .add .scal) [.t 18,.t 19],o 21 (.conv .u64) [.t 20],o 22 (.bin .shr .scal) [.t 21,.c (.int .u64 1)],o 23 (.conv .i64) [.t 22],o 11 .mov [.t 23]]
 (.seq (.reg [[],[],[],[1,2],[3],[],[0,4,5],[6]]
 [o 24 .mov [.t 2],o 25 .mov [.t 0],o 26 .mov [.t 11],o 27 (.idxA 10) [.t 25,.t 26],o 28 (lo 10) [.t 27],o 29 (lo 2) [.t 4],o 30 .callv [.t 24,.t 28,.t 29],o 31 (.bin .lss .scal) [.t 30,ci 0]])
 (.cond (.t 31)
 (.reg []
 [o 32 .mov [.t 11],o 33 (.bin .add .scal) [.t 32,ci 1],o 9 .mov [.t 33]])
 (.reg []
 [o 34 .mov [.t 11],o 10 .mov [.t 34]])))))
def ac143:AC :=
 sr [o 4 .box [.t 1],o 6 .mov [ci 0],o 7 .mov [cF]]
 (sr [o 12 .mov [.t 0],o 13 .lenL [.t 12],o 8 .mov [.t 13]]
 (sr [o 14 .mov [.t 8],o 9 .mov [ci 0],o 10 .mov [.t 14]]
 (.seq (.block 0 (.loop ac143_1))
 (.seq (.reg [[],[],[],[1,2],[3],[4],[4],[4],[6,7,4],[8,4],[4],[5,9,10,4,4],[11,4],[4,12],[0,11,0],[13,14,0,1,2,3,4,5,6,7,8,9,10,11,12,13,14]]
 [o 35 .mov [.t 9],o 36 .mov [.t 9],o 37 .mov [.t 8],o 38 (.bin .lss .scal) [.t 36,.t 37],o 39 .mov [.t 38],oT 40 39 .mov [.t 2],oT 41 39 .mov [.t 0],oT 42 39 .mov [.t 9],oT 43 39 (.idxA 10) [.t 41,.t 42],oT 44 39 (lo 10) [.t 43],oT 45 39 (lo 2) [.t 4],oT 46 39 .callv [.t 40,.t 44,.t 45],oT 47 39 (.bin .eql .scal) [.t 46,ci 0],o 48 .pick [.t 39,.t 47,cF],o 6 .mov [.t 35],o 7 .mov [.t 48]])
 .ret))))
theorem i143:J 143 = some (49,[.t 6,.t 7],ac143):=by kernel_rfl
def ac144:AC :=
 sr [o 2 .box [.t 0],o 3 .box [.t 1],o 4 .mov [ci 0]]
 (.seq (.reg [[],[0],[1],[],[3],[2,4],[],[6],[7],[],[9],[8,10,5],[5,11],[12,11],[13,13,0,1,2,3,4,5,6,7,8,9,10,11,12,13]]
 [o 5 (.fldA 0) [.t 2],o 6 (.fldA 0) [.t 5],o 7 ld [.t 6],o 8 (.fldA 0) [.t 3],o 9 ld [.t 8],o 10 (.call 126) [.t 7,.t 9],o 11 (.fldA 0) [.t 2],o 12 (.fldA 1) [.t 11],o 13 ld [.t 12],o 14 (.fldA 1) [.t 3],o 15 ld [.t 14],o 16 (.call 127) [.t 13,.t 15],o 17 (.bslice 1 3) [.t 10,.t 16],o 18 (.call 125) [.t 17],o 4 .mov [.t 18]])
 .ret)
theorem i144:J 144 = some (19,[.t 4],ac144):=by kernel_rfl
def ac148_1:AC :=
 sr [o 17 (.bin .lss .scal) [.t 16,.t 15]]
 (.seq (.cond (.t 17)
 .skip
 (.exit 0))
 (.seq (.block 1 (sr [o 18 .mov [.t 16],o 19 (.idxA 10) [.t 14,.t 16],o 20 (lo 10) [.t 19],o 8 (.alloc [.int .u32 0,z6,z6,z6,z6,z6,.int .u32 0,.bool false,z6,.nils]) [],o 7 .mov [.t 18],oN (.store 10) [.t 8,.t 20]]
 (.seq (.reg [[],[0],[1],[2],[3],[4,3],[5,3],[3,6],[7,3],[8],[9,8],[8],[11,8],[10,12,8,8],[8,13],[14,13],[15],[16,15],[17,15,15],[18],[19,18],[20,18],[18],[22,18],[18],[23,24,18],[25,18],[26,18],[27,18],[21,28,18],[18,29,15],[15,30]]
 [o 21 (.fldA 2) [.t 8],o 22 ld [.t 21],o 23 (.bin .eql .scal) [.t 22,ci 0],o 24 .mov [.t 23],oT 25 24 (.fldA 7) [.t 8],oT 26 24 ld [.t 25],oT 27 24 .unNot [.t 26],o 28 .pick [.t 24,.t 27,cF],o 29 .mov [.t 28],oT 30 29 (.fldA 0) [.t 8],oT 31 29 (lo 2) [.t 30],oT 32 29 (.fldA 1) [.t 3],oT 33 29 ld [.t 32],oT 34 29 (.call 167) [.t 31,.t 33],o 35 .pick [.t 29,.t 34,cF],o 36 .mov [.t 35],oT 37 36 .mov [.t 6],oT 38 36 (.bin .lss .scal) [.t 37,ci 0],oT 39 36 .mov [.t 38],oF 40 39 (.fldA 0) [.t 8],oF 41 39 (.fldA 1) [.t 40],oF 42 39 ld [.t 41],oF 43 39 (.fldA 0) [.t 2],oF 44 39 ld [.t 43],oF 45 39 .mov [.t 6],oF 46 39 (.idxA 10) [.t 44,.t 45],oF 47 39 (.fldA 0) [.t 46],oF 48 39 (.fldA 1) [.t 47],oF 49 39 ld [.t 48],oF 50 39 (.bin .gtr .scal) [.t 42,.t 49],oT 51 36 .pick [.t 39,cT,.t 50],o 52 .pick [.t 36,.t 51,cF]])
 (.cond (.t 52)
 (.reg []
 [o 53 .mov [.t 7],o 6 .mov [.t 53]])
 .skip))))
 (.reg []
 [o 54 (.bin .add .scal) [.t 16,ci 1],o 16 .mov [.t 54]])))
def ac148:AC :=
 sr [o 2 .box [.t 0],o 3 .box [.t 1],o 4 (.alloc [z6,.int .u32 0]) [],o 5 .mov [cF]]
 (.seq (sr [o 9 (.fldA 1) [.t 3],o 10 ld [.t 9],o 11 (.bin .eql .scal) [.t 10,.c (.int .u32 0)]]
 (.cond (.t 11)
 (sr [o 12 (lo 2) [.t 3],oN (.store 2) [.t 4,.t 12],o 5 .mov [cT]]
 .ret)
 .skip))
 (sr [o 6 .mov [ci (-1)]]
 (.seq (sr [o 13 (.fldA 0) [.t 2],o 14 ld [.t 13],o 15 .lenL [.t 14],o 16 .mov [ci 0]]
 (.block 0 (.loop ac148_1)))
 (.seq (sr [o 55 .mov [.t 6],o 56 (.bin .lss .scal) [.t 55,ci 0]]
 (.cond (.t 56)
 (sr [o 57 (.build [z6,.int .u32 0] []) [],oN (.store 2) [.t 4,.t 57],o 5 .mov [cF]]
 .ret)
 .skip))
 (.seq (.reg [[],[0],[],[1,2],[3],[4],[5],[6],[7],[],[9],[8,10],[11,0,1,2,3,4,5,6,7,8,9,10,11],[12,0,1,2,3,4,5,6,7,8,9,10,11,12]]
 [o 58 (.fldA 0) [.t 2],o 59 ld [.t 58],o 60 .mov [.t 6],o 61 (.idxA 10) [.t 59,.t 60],o 62 (.fldA 9) [.t 61],o 63 ld [.t 62],o 64 (.idxA 2) [.t 63,ci 0],o 65 (.fldA 0) [.t 64],o 66 ld [.t 65],o 67 (.fldA 1) [.t 3],o 68 ld [.t 67],o 69 (.build [z6,.int .u32 0] [(0,1),(1,1)]) [.t 66,.t 68],oN (.store 2) [.t 4,.t 69],o 5 .mov [cT]])
 .ret)))))
theorem i148:J 148 = some (70,[.c 4 (some 2),.t 5],ac148):=by kernel_rfl
def ac149:AC :=
 sr [o 3 .box [.t 1],o 4 .mov [cF],o 5 .mov [ci 0]]
 (sr [o 7 .mov [.t 0],o 8 (.mkfn 169 0) [.t 3],o 9 (.call 168) [.t 7,.t 8],o 6 .mov [.t 9]]
 (.seq (sr [o 10 .mov [.t 6],o 11 (.bin .lss .scal) [.t 10,ci 0]]
 (.cond (.t 11)
 (sr [o 4 .mov [cF],o 5 .mov [ci 0]]
 .ret)
 .skip))
 (.seq (.reg [[],[],[0,1],[2],[3],[],[],[5,6],[7],[8],[4,0,1,2,3,4],[9,10,0,1,2,3,4,5,6,7,8,9,10]]
 [o 12 .mov [.t 0],o 13 .mov [.t 6],o 14 (.idxA 6) [.t 12,.t 13],o 15 (.fldA 1) [.t 14],o 16 ld [.t 15],o 17 .mov [.t 0],o 18 .mov [.t 6],o 19 (.idxA 6) [.t 17,.t 18],o 20 (.fldA 0) [.t 19],o 21 ld [.t 20],o 4 .mov [.t 16],o 5 .mov [.t 21]])
 .ret)))
theorem i149:J 149 = some (22,[.t 4,.t 5],ac149):=by kernel_rfl
def ac150:AC :=
 sr [o 4 .mov [cF]]
 (sr [o 5 .mov [.t 0],o 6 .mov [.t 1],o 7 (.call 171) [.t 5,.t 6],o 8 (.bin .geq .scal) [.t 7,ci 0],o 4 .mov [.t 8]]
 .ret)
theorem i150:J 150 = some (9,[.t 4],ac150):=by kernel_rfl
def ac151:AC :=
 sr [o 2 .mov [cF]]
 (sr [o 3 .mov [.t 0],o 4 (.bin .geq .scal) [.t 3,ci 0],o 5 .mov [.t 4],oT 6 5 .mov [.t 0],oT 7 5 (.bin .leq .scal) [.t 6,ci 32],o 8 .pick [.t 5,.t 7,cF],o 2 .mov [.t 8]]
 .ret)
theorem i151:J 151 = some (9,[.t 2],ac151):=by kernel_rfl
def ac152:AC :=
 sr [o 2 .mov [.c (.int .u32 0)]]
 (sr [o 3 .mov [.t 0],o 4 (.minmax true) [.t 3,ci 0],o 5 (.minmax false) [.t 4,ci 32],o 0 .mov [.t 5]]
 (sr [o 6 .mov [.t 0],o 7 (.bin .sub .scal) [ci 32,.t 6],o 8 (.bin .shl .scal) [.c (.int .u64 4294967295),.t 7],o 9 (.conv .u32) [.t 8],o 2 .mov [.t 9]]
 .ret))
theorem i152:J 152 = some (10,[.t 2],ac152):=by kernel_rfl
def ac153:AC :=
 sr [o 2 .mov [cF]]
 (sr [o 3 .mov [.t 0],o 4 .mov [.t 0],o 5 (.bin .neq .scal) [.t 3,.t 4],o 2 .mov [.t 5]]
 .ret)
theorem i153:J 153 = some (6,[.t 2],ac153):=by kernel_rfl
def ac154:AC :=
 sr [o 2 .mov [cF]]
 (sr [o 3 .mov [.t 0],o 4 .mov [.t 0],o 5 (.bin .neq .scal) [.t 3,.t 4],o 2 .mov [.t 5]]
 .ret)
theorem i154:J 154 = some (6,[.t 2],ac154):=by kernel_rfl
def ac160:AC :=
 sr [o 1 .box [.t 0],o 2 .mov [cF]]
 (sr [o 3 (lo 6) [.t 1],o 4 (.call 161) [.t 3],o 5 .unNot [.t 4],o 2 .mov [.t 5]]
 .ret)
theorem i160:J 160 = some (6,[.t 2],ac160):=by kernel_rfl
def ac161:AC :=
 sr [o 1 .box [.t 0],o 2 .mov [cF]]
 (.seq (sr [o 5 (.fldA 0) [.t 1],o 6 ld [.t 5],o 7 (.bin .lss .scal) [.t 6,ci 1],o 8 .mov [.t 7],oF 9 8 (.fldA 0) [.t 1],oF 10 8 ld [.t 9],oF 11 8 (.bin .gtr .scal) [.t 10,ci 65535],o 12 .pick [.t 8,cT,.t 11],o 13 .mov [.t 12],oF 14 13 (.fldA 2) [.t 1],oF 15 13 (lo 2) [.t 14],oF 16 13 (.call 124) [.t 15],oF 17 13 .unNot [.t 16],o 18 .pick [.t 13,cT,.t 17]]
 (.cond (.t 18)
 (sr [o 2 .mov [cF]]
 .ret)
 .skip))
 (sr [o 19 (.fldA 4) [.t 1],o 20 ld [.t 19],o 21 (.bin .eql .scal) [.t 20,ci 0],o 22 .mov [.t 21],oF 23 22 (.fldA 4) [.t 1],oF 24 22 ld [.t 23],oF 25 22 (.fldA 2) [.t 1],oF 26 22 (.fldA 1) [.t 25],oF 27 22 ld [.t 26],oF 28 22 (.bin .gtr .scal) [.t 24,.t 27],oF 29 22 .mov [.t 28],oT 30 29 (.fldA 4) [.t 1],oT 31 29 ld [.t 30],oT 32 29 (.bin .leq .scal) [.t 31,ci 32],oF 33 22 .pick [.t 29,.t 32,cF],o 34 .pick [.t 22,cT,.t 33],o 3 .mov [.t 34]]
 (sr [o 35 (.fldA 5) [.t 1],o 36 ld [.t 35],o 37 (.bin .eql .scal) [.t 36,ci 0],o 38 .mov [.t 37],oF 39 38 (.fldA 5) [.t 1],oF 40 38 ld [.t 39],oF 41 38 (.fldA 4) [.t 1],oF 42 38 ld [.t 41],oF 43 38 (.fldA 2) [.t 1],oF 44 38 (.fldA 1) [.t 43],oF 45 38 ld [.t 44],oF 46 38 (.minmax true) [.t 42,.t 45],oF 47 38 (.bin .geq .scal) [.t 40,.t 46],oF 48 38 .mov [.t 47],oT 49 48 (.fldA 5) [.t 1],oT 50 48 ld [.t 49],oT 51 48 (.bin .leq .scal) [.t 50,ci 32],oF 52 38 .pick [.t 48,.t 51,cF],o 53 .pick [.t 38,cT,.t 52],o 4 .mov [.t 53]]
 (sr [o 54 .mov [.t 3],o 55 .mov [.t 54],oT 56 55 .mov [.t 4],o 57 .pick [.t 55,.t 56,cF],o 2 .mov [.t 57]]
 .ret))))
theorem i161:J 161 = some (58,[.t 2],ac161):=by kernel_rfl
def ac162:AC :=
 sr [o 4 .mov [cF]]
 (sr [o 5 .mov [.t 0],o 6 .mov [.t 1],o 7 (.call 168) [.t 5,.t 6],o 8 (.bin .geq .scal) [.t 7,ci 0],o 4 .mov [.t 8]]
 .ret)
theorem i162:J 162 = some (9,[.t 4],ac162):=by kernel_rfl
def ac163_1:AC :=
 sr [o 9 (.bin .lss .scal) [.t 8,.t 7]]
 (.seq (.cond (.t 9)
 .skip
 (.exit 0))
 (.seq (.block 1 (sr [o 10 .mov [.t 8],o 5 .mov [.t 10]]
 (.seq (.reg [[],[0],[1],[2],[2],[2],[4,5,2],[6,2],[3,7,2,2],[2],[2],[2],[11,2],[10,12,2],[13,2],[9,14,8,2],[8,15,2],[2,16]]
 [o 11 .mov [.t 5],o 12 (.bin .gtr .scal) [.t 11,ci 0],o 13 .mov [.t 12],oT 14 13 .mov [.t 1],oT 15 13 .mov [.t 0],oT 16 13 .mov [.t 5],oT 17 13 (.idxA 6) [.t 15,.t 16],oT 18 13 (lo 6) [.t 17],oT 19 13 .callv [.t 14,.t 18],oT 20 13 .mov [.t 1],oT 21 13 .mov [.t 0],oT 22 13 .mov [.t 5],oT 23 13 (.bin .sub .scal) [.t 22,ci 1],oT 24 13 (.idxA 6) [.t 21,.t 23],oT 25 13 (lo 6) [.t 24],oT 26 13 .callv [.t 20,.t 25],oT 27 13 (.bin .leq .scal) [.t 19,.t 26],o 28 .pick [.t 13,.t 27,cF]])
 (.cond (.t 28)
 (sr [o 4 .mov [cF]]
 .ret)
 .skip))))
 (.reg []
 [o 29 (.bin .add .scal) [.t 8,ci 1],o 8 .mov [.t 29]])))
def ac163:AC :=
 sr [o 4 .mov [cF]]
 (.seq (sr [o 6 .mov [.t 0],o 7 .lenL [.t 6],o 8 .mov [ci 0]]
 (.block 0 (.loop ac163_1)))
 (sr [o 4 .mov [cT]]
 .ret))
theorem i163:J 163 = some (30,[.t 4],ac163):=by kernel_rfl
def ac164:AC :=
 sr [o 1 .box [.t 0],o 2 .mov [ci 0]]
 (sr [o 3 (.fldA 0) [.t 1],o 4 ld [.t 3],o 2 .mov [.t 4]]
 .ret)
theorem i164:J 164 = some (5,[.t 2],ac164):=by kernel_rfl
def ac167:AC :=
 sr [o 2 .box [.t 0],o 4 .mov [cF]]
 (.seq (.reg [[],[0],[1,1],[2],[2],[4,2],[5,2,2],[3,6,2],[2],[8,2],[7,9,2],[2,10],[11,6,0,1,2,3,4,5,6,7,8,9,10,11]]
 [o 5 (lo 2) [.t 2],o 6 (.call 124) [.t 5],o 7 .mov [.t 6],oT 8 7 .mov [.t 1],oT 9 7 (.fldA 1) [.t 2],oT 10 7 ld [.t 9],oT 11 7 (.call 152) [.t 10],oT 12 7 (.bin .and .scal) [.t 8,.t 11],oT 13 7 (.fldA 0) [.t 2],oT 14 7 ld [.t 13],oT 15 7 (.bin .eql .scal) [.t 12,.t 14],o 16 .pick [.t 7,.t 15,cF],o 4 .mov [.t 16]])
 .ret)
theorem i167:J 167 = some (17,[.t 4],ac167):=by kernel_rfl
def ac168_1:AC :=
 sr [o 9 (.bin .lss .scal) [.t 8,.t 7]]
 (.seq (.cond (.t 9)
 .skip
 (.exit 0))
 (.seq (.block 1 (sr [o 10 .mov [.t 8],o 5 .mov [.t 10]]
 (sr [o 11 .mov [.t 1],o 12 .mov [.t 0],o 13 .mov [.t 5],o 14 (.idxA 6) [.t 12,.t 13],o 15 (lo 6) [.t 14],o 16 .callv [.t 11,.t 15]]
 (.cond (.t 16)
 (sr [o 17 .mov [.t 5],o 4 .mov [.t 17]]
 .ret)
 .skip))))
 (.reg []
 [o 18 (.bin .add .scal) [.t 8,ci 1],o 8 .mov [.t 18]])))
def ac168:AC :=
 sr [o 4 .mov [ci 0]]
 (.seq (sr [o 6 .mov [.t 0],o 7 .lenL [.t 6],o 8 .mov [ci 0]]
 (.block 0 (.loop ac168_1)))
 (sr [o 4 .mov [ci (-1)]]
 .ret))
theorem i168:J 168 = some (19,[.t 4],ac168):=by kernel_rfl
def ac169:AC :=
 sr [o 2 .box [.t 0],o 3 .mov [cF]]
 (sr [o 4 (lo 6) [.t 2],o 5 (lo 2) [.t 1],o 6 (.call 170) [.t 4,.t 5],o 3 .mov [.t 6]]
 .ret)
theorem i169:J 169 = some (7,[.t 3],ac169):=by kernel_rfl
def ac170:AC :=
 sr [o 2 .box [.t 0],o 3 .box [.t 1],o 4 .mov [cF]]
 (sr [o 8 (lo 6) [.t 2],o 9 (.call 176) [.t 8],o 7 .mov [.t 9],o 10 (.ext 0) [.t 7],o 11 (.ext 1) [.t 7],o 5 .mov [.t 10],o 6 .mov [.t 11]]
 (sr [o 12 (lo 6) [.t 2],o 13 (.call 161) [.t 12],o 14 .mov [.t 13],oT 15 14 (.fldA 2) [.t 2],oT 16 14 (lo 2) [.t 15],oT 17 14 (lo 2) [.t 3],oT 18 14 (.call 177) [.t 16,.t 17],o 19 .pick [.t 14,.t 18,cF],o 20 .mov [.t 19],oT 21 20 (.fldA 1) [.t 3],oT 22 20 ld [.t 21],oT 23 20 .mov [.t 5],oT 24 20 (.bin .geq .scal) [.t 22,.t 23],o 25 .pick [.t 20,.t 24,cF],o 26 .mov [.t 25],oT 27 26 (.fldA 1) [.t 3],oT 28 26 ld [.t 27],oT 29 26 .mov [.t 6],oT 30 26 (.bin .leq .scal) [.t 28,.t 29],o 31 .pick [.t 26,.t 30,cF],o 4 .mov [.t 31]]
 .ret))
theorem i170:J 170 = some (32,[.t 4],ac170):=by kernel_rfl
def ac171_1:AC :=
 sr [o 9 (.bin .lss .scal) [.t 8,.t 7]]
 (.seq (.cond (.t 9)
 .skip
 (.exit 0))
 (.seq (.block 1 (sr [o 10 .mov [.t 8],o 5 .mov [.t 10]]
 (sr [o 11 .mov [.t 1],o 12 .mov [.t 0],o 13 .mov [.t 5],o 14 (.idxA 1) [.t 12,.t 13],o 15 ld [.t 14],o 16 (.bin .eql .scal) [.t 11,.t 15]]
 (.cond (.t 16)
 (sr [o 17 .mov [.t 5],o 4 .mov [.t 17]]
 .ret)
 .skip))))
 (.reg []
 [o 18 (.bin .add .scal) [.t 8,ci 1],o 8 .mov [.t 18]])))
def ac171:AC :=
 sr [o 4 .mov [ci 0]]
 (.seq (sr [o 6 .mov [.t 0],o 7 .lenL [.t 6],o 8 .mov [ci 0]]
 (.block 0 (.loop ac171_1)))
 (sr [o 4 .mov [ci (-1)]]
 .ret))
theorem i171:J 171 = some (19,[.t 4],ac171):=by kernel_rfl
def ac176:AC :=
 sr [o 1 .box [.t 0],o 2 .mov [ci 0],o 3 .mov [ci 0]]
 (.seq (.block 0 (sr [o 5 (.fldA 4) [.t 1],o 6 ld [.t 5],o 7 (.bin .eql .scal) [.t 6,ci 0],o 8 .mov [.t 7],oT 9 8 (.fldA 5) [.t 1],oT 10 8 ld [.t 9],oT 11 8 (.bin .eql .scal) [.t 10,ci 0],o 12 .pick [.t 8,.t 11,cF],o 4 .mov [.t 12]]
 (.cond (.t 4)
 (.seq (.reg [[],[0],[1],[],[3],[4],[2,0,1,2],[5,6,0,1,2,3,4,5,6]]
 [o 13 (.fldA 2) [.t 1],o 14 (.fldA 1) [.t 13],o 15 ld [.t 14],o 16 (.fldA 2) [.t 1],o 17 (.fldA 1) [.t 16],o 18 ld [.t 17],o 2 .mov [.t 15],o 3 .mov [.t 18]])
 .ret)
 (sr [o 20 (.fldA 4) [.t 1],o 21 ld [.t 20],o 22 (.bin .eql .scal) [.t 21,ci 0],o 19 .mov [.t 22]]
 (.cond (.t 19)
 (.seq (.reg [[],[0],[1],[],[3],[2,0,1,2],[4,5,0,1,2,3,4,5]]
 [o 23 (.fldA 2) [.t 1],o 24 (.fldA 1) [.t 23],o 25 ld [.t 24],o 26 (.fldA 5) [.t 1],o 27 ld [.t 26],o 2 .mov [.t 25],o 3 .mov [.t 27]])
 .ret)
 (sr [o 29 (.fldA 5) [.t 1],o 30 ld [.t 29],o 31 (.bin .eql .scal) [.t 30,ci 0],o 28 .mov [.t 31]]
 (.cond (.t 28)
 (sr [o 32 (.fldA 4) [.t 1],o 33 ld [.t 32],o 2 .mov [.t 33],o 3 .mov [ci 32]]
 .ret)
 .skip)))))))
 (.seq (.reg [[],[0],[],[2],[1,0,1],[3,4,0,1,2,3,4]]
 [o 34 (.fldA 4) [.t 1],o 35 ld [.t 34],o 36 (.fldA 5) [.t 1],o 37 ld [.t 36],o 2 .mov [.t 35],o 3 .mov [.t 37]])
 .ret))
theorem i176:J 176 = some (38,[.t 2,.t 3],ac176):=by kernel_rfl
def ac177:AC :=
 sr [o 2 .box [.t 0],o 3 .box [.t 1],o 4 .mov [cF]]
 (sr [o 5 (lo 2) [.t 3],o 6 (.call 124) [.t 5],o 7 .mov [.t 6],oT 8 7 (.fldA 1) [.t 2],oT 9 7 ld [.t 8],oT 10 7 (.fldA 1) [.t 3],oT 11 7 ld [.t 10],oT 12 7 (.bin .leq .scal) [.t 9,.t 11],o 13 .pick [.t 7,.t 12,cF],o 14 .mov [.t 13],oT 15 14 (lo 2) [.t 2],oT 16 14 (.fldA 0) [.t 3],oT 17 14 ld [.t 16],oT 18 14 (.call 167) [.t 15,.t 17],o 19 .pick [.t 14,.t 18,cF],o 4 .mov [.t 19]]
 .ret)
theorem i177:J 177 = some (20,[.t 4],ac177):=by kernel_rfl
def subR (heap:List (AId × AObj)) (sl:List Nat) (bs:List (AId × AObj)):List Nat → Nat → Option (List (AId × AObj))
 | [],_=>some []
 | id :: r,k=>match heap.lookup id with
  | some o=>match viewO sl bs o,subR heap sl bs r (k + 1) with
   | some o',some l=>some ((k,o') :: l)
   | _,_=>none
  | none=>subR heap sl bs r (k + 1)
theorem gC {heap:List (AId × AObj)} {sl:List Nat} {bs:List (AId × AObj)} : ∀ {ids:List Nat} {k:Nat} {l:List (AId × AObj)},subR heap sl bs ids k = some l →
  ∀ (i:Nat) (o:AObj),l.lookup i = some o → ∃ (j id:Nat) (o':AObj),i = k + j ∧ ids[j]? = some id ∧ heap.lookup id = some o' ∧ viewO sl bs o' = some o
 | [],k,l,h=>by simp [subR] at h; subst h; exact fun i o h=>by simp at h
 | id :: r,k,l,h=>by
  simp only [subR] at h
  split at h
  ·rename_i o ho
   split at h
   ·rename_i o' l' h1 h2
    injection h with h
    subst h
    have g1:=gC h2
    intro i o2 hi
    by_cases hk:i = k
    ·subst hk
     simp [List.lookup] at hi
     subst hi
     exact ⟨0,id,o,by simp,rfl,ho,h1⟩
    ·have:(i == k) = false:=by simpa using hk
     simp only [List.lookup,this] at hi
     obtain ⟨j,id',o3,e1,e2,e3,e4⟩:=g1 i o2 hi
     exact ⟨j + 1,id',o3,by omega,by simpa using e2,e3,e4⟩
   ·cases h
  ·intro i o2 hi
   obtain ⟨j,id',o3,e1,e2,e3,e4⟩:=gC h i o2 hi
   exact ⟨j + 1,id',o3,by omega,by simpa using e2,e3,e4⟩
theorem il {k0:Nat} {st:St} {sl bi:List Nat} {env:List (Nat × PVal)} {h0:List (AId × AObj)} (hk : ∀ i,i < k0 → sl[i]? = some i) (hk0:k0 ≤ sl.length) (hs:slOk sl bi st.next = true)
  (hh:subR st.heap sl (pickH st.heap bi) sl 0 = some h0) (he : ∀ t p,env.lookup t = some p → ∃ q,st.env.lookup t = some q ∧ viewP sl (pickH st.heap bi) q = some p) :
  Conv k0 st { env,heap:=h0,next:=sl.length }:=by
 intro n ds m ok a w hkn hS
 simp only [slOk,Bool.and_eq_true,decide_eq_true_eq,List.all_eq_true,Bool.not_eq_true',List.contains_eq_mem,decide_eq_false_iff_not] at hs
 obtain ⟨hnd,hs2⟩:=hs
 have u1:=gC hh
 have hbh : ∀ id o,(pickH st.heap bi).lookup id = some o → st.h id = some o:=fun id o hb=>(bD _ _ _ _ hb).1
 have hdis : ∀ id ∈ sl,(pickH st.heap bi).lookup id = none:=fun id hid=>by
  cases hb:(pickH st.heap bi).lookup id with
  | none=>rfl
  | some o=>exact absurd (bD _ _ _ _ hb).2 (hs2 id hid).1
 have hok : ∀ b,okn ok m b → okn ok (mv m sl) b:=fun b h=>⟨h.1,(gv (sl:=sl) (bs:=[]) h).2⟩
 have hb : ∀ id o,(pickH st.heap bi).lookup id = some o → ∀ b t,m id = some (.at b t) → okn ok (mv m sl) b:=fun id o hbo b t hm=>⟨hS.hp.okm id b t hm,(okv_bs hS.hp hdis id o hbo b t hm).2⟩
 refine ⟨mv m sl,⟨⟨fun i o ho=>?_,fun i B hB=>?_,fun i i' b t t' h h'=>?_,fun i b t h=>?_,fun i b t h=>?_,hS.hp.fresh,fun x hx=>⟨fun i t h=>by obtain ⟨id,q1,q2⟩:=bh h; exact (hS.hp.glob x hx).1 id t q2,(hS.hp.glob x hx).2⟩⟩,fun t p hp=>?_,hS.df,hS.sz⟩,⟨rfl,rfl,rfl,Nat.le_refl _,fun _ _ _=>rfl,fun i b t h=>?_⟩,fun i hi=>?_,hk0⟩
 ·obtain ⟨j,id,o',e1,e2,e3,e4⟩:=u1 i o ho
  rw [Nat.zero_add] at e1
  subst e1
  obtain ⟨B,hB,hobj⟩:=hS.hp.obj id o' e3
  exact ⟨B,by simp [mv,e2,hB],fA hS.hp fG hok hbh hb hobj e4⟩
 ·obtain ⟨id,g1,_⟩:=bh hB
  exact (List.getElem?_eq_some_iff.1 g1).1
 ·obtain ⟨id,g1,g2⟩:=bh h
  obtain ⟨id',g1',g2'⟩:=bh h'
  have:=hS.hp.inj id id' b t t' g2 g2'
  subst this
  exact (List.getElem?_inj (List.getElem?_eq_some_iff.1 g1).1 hnd).1 (g1.trans g1'.symm)
 ·obtain ⟨id,g1,g2⟩:=bh h
  exact hS.hp.lt id b t g2
 ·obtain ⟨id,g1,g2⟩:=bh h
  exact hS.hp.okm id b t g2
 ·obtain ⟨q,hq,hvq⟩:=he t p hp
  obtain ⟨v,g1,g2⟩:=hS.tmp t q hq
  exact ⟨v,g1,en hS.hp fG hok hbh hb g2 hvq⟩
 ·obtain ⟨id,g1,g2⟩:=bh h
  exact .inl ⟨id,t,g2⟩
 ·left
  simp [mv,hk i hi]
theorem ii {k0:Nat} {ts:List RV} {r:PVal} {h1:List (AId × AObj)} {k1:Nat} {e:Exit} {st:St} (he:e = .normal ∨ e = .ret) {qs qs':List PVal} (hq:evalRs st.env st.heap ts = some qs) {sl bi:List Nat} (hk : ∀ i,i < k0 → sl[i]? = some i) (hk0:k0 ≤ sl.length)
  (hs:slOk sl bi st.next = true) (hh:subR st.heap sl (pickH st.heap bi) sl 0 = some h1) (hv:viewP.go sl (pickH st.heap bi) qs = some qs') (hr:WeakP (retV qs') r) (hl:sl.length = k1):RetQ k0 ts r h1 k1 e st:=by
 obtain ⟨hlen,hget⟩:=cp hv
 refine ⟨he,qs,{ env:=paramE 0 qs',heap:=h1,next:=sl.length },qs',hq,il hk hk0 hs hh fun t p h=>?_,?_,hr,rfl,hl⟩
 ·obtain ⟨j,rfl,hj⟩:=bU h
  obtain ⟨q,h1,h2⟩:=hget j p hj
  exact ⟨q,cB h1,h2⟩
 ·rw [← hlen]; exact eI qs'
theorem cM (heap:List (AId × AObj)) (id:AId) (o:AObj):(fun i=>(setH id o heap).lookup i) = fun i=>if i = id then some o else heap.lookup i:=by
 funext i
 exact cm id o heap i
theorem WK.full {P:Program} {n k0:Nat} {Q:Exit → St → Prop} {c:AC} {r:List AC} {env:List (Nat × PVal)} {heap:List (AId × AObj)} {zj:Nat → List (AId × AObj)} {next id sz ty:Nat} {es:List (List PVal)} (ho:heap.lookup id = some (.row sz ty es))
  (hh : ∀ k,setH id (.full sz ty (es ++ List.replicate k (List.replicate sz .undef))) heap = zj k) (h : ∀ k,WK P n k0 (c :: r) Q ⟨env,zj k,next⟩):WK P n k0 (c :: r) Q ⟨env,heap,next⟩:=by
 intro c' hc rr ds m ok a w hk hS
 obtain ⟨B,hB,hob⟩:=hS.hp.obj id _ ho
 obtain ⟨k,hob'⟩:=row_full hob
 refine h k c' hc rr ds m ok a w hk ⟨?_,hS.tmp,hS.df,hS.sz⟩
 have:=hS.hp.weakObj (id:=id) ho (o':=.full sz ty (es ++ List.replicate k (List.replicate sz .undef))) (fun B' hB' _=>by
  rw [hB] at hB'
  injection hB' with hB'
  subst hB'
  exact hob')
 show SimH _ _ _ (fun i=>(zj k).lookup i) w
 rw [← hh k,cM]
 exact this
theorem di {k0:Nat} {env:List (Nat × PVal)} {heap zj:List (AId × AObj)} {next id sz ty:Nat} {es es':List (List PVal)} (q:Nat) (ho:heap.lookup id = some (.full sz ty es)) (he:es.take q = es') (hk:knownL es' = true) (hh:setH id (.row sz ty es') heap = zj) :
  Conv k0 ⟨env,heap,next⟩ ⟨env,zj,next⟩:=by
 subst he
 intro n ds m ok a w hkn hS
 refine ⟨m,⟨?_,hS.tmp,hS.df,hS.sz⟩,Step.refl m w,fun i hi=>.inl rfl,hkn⟩
 have:=hS.hp.weakObj (id:=id) ho (o':=.row sz ty (es.take q)) (fun B' _ hob=>eR hk hob)
 show SimH _ _ _ (fun i=>zj.lookup i) w
 rw [← hh,cM]
 exact this
theorem Conv.move {k0:Nat} {env:List (Nat × PVal)} {heap:List (AId × AObj)} {next id sz ty lo k t:Nat} {es:List (List PVal)} (ho:heap.lookup id = some (.row sz ty es)) (ht:env.lookup t = some (.own id sz lo k)) :
  Conv k0 ⟨env,heap,next⟩ ⟨[(t,.own next sz lo k)],[(next,.row sz ty es)],next + 1⟩:=by
 intro n ds m ok a w hkn hS
 obtain ⟨B,hB,hob⟩:=hS.hp.obj id _ ho
 have hD:(fun i:AId=>i < next ∨ i = next) = (· < next + 1):=by
  funext i
  show (i < next ∨ i = next) = (i < next + 1)
  exact propext ⟨fun h=>h.elim Nat.lt_succ_of_lt fun e=>e ▸ Nat.lt_succ_self _,fun h=>Nat.lt_or_eq_of_le (Nat.le_of_lt_succ h)⟩
 have hid:id < next:=hS.hp.dom id B hB
 obtain ⟨g1,g2,g3⟩:=hS.hp.reloc (w':=w) (some id) next B (.row sz ty es) rfl rfl rfl (Nat.le_refl _) (fun b hb hn=>rfl) (.inr (Nat.lt_irrefl _))
  (fun b' t' e=>by subst e; exact ⟨hS.hp.lt _ _ _ hB,.inr ⟨id,t',rfl,hB⟩⟩)
  (fun hst=>by
   have hrs : ∀ p v,Rep w (okn ok m) (· < next) m true p v → Rep w (okn ok (fun i=>if i = next then some B else if some id = some i then none else m i)) (fun i=>i < next ∨ i = next) (fun i=>if i = next then some B else if some id = some i then none else m i) true p v:=fun p v hrp=>hrp.step hst (fun _=>.inl) (by
    intro j hd
    by_cases e1:j = next
    ·subst e1; exact absurd hd (Nat.lt_irrefl _)
    ·by_cases e2:some id = some j
     ·right; simp [e1,e2]
     ·left; simp [e1,e2])
   cases B with
   | nil=>exact hob
   | «at» b tot =>
    obtain ⟨vs,h1,h2,h3,h4,h5,h6,h7⟩:=hob
    exact ⟨vs,h1,h2,h3,h4,h5,h6,fun i j e p he hp=>by
     obtain ⟨v,k1,k2,k3⟩:=h7 i j e p he hp
     exact ⟨v,k1,k2,hrs p v k3⟩⟩)
 rw [hD] at g1
 refine ⟨_,⟨⟨fun i o hi=>?_,g1.dom,g1.inj,g1.lt,g1.okm,g1.fresh,g1.glob⟩,fun t' p hp=>?_,hS.df,hS.sz⟩,g2,fun i hi=>?_,by show k0 ≤ next + 1; exact Nat.le_succ_of_le hkn⟩
 ·have hi':([(next,AObj.row sz ty es)]:List (AId × AObj)).lookup i = some o:=hi
  by_cases e:i = next
  ·subst e
   simp [List.lookup] at hi'
   subst hi'
   exact g1.obj _ _ (by simp)
  ·have:(i == next) = false:=by simpa using e
   simp [List.lookup,this] at hi'
 ·have hp':([(t,PVal.own next sz lo k)]:List (Nat × PVal)).lookup t' = some p:=hp
  by_cases e:t' = t
  ·subst e
   simp [List.lookup] at hp'
   subst hp'
   obtain ⟨v,hv,hrep⟩:=hS.tmp _ _ ht
   refine ⟨v,hv,?_⟩
   cases hrep with
   | own hd h1 h =>
    refine .own (Nat.lt_succ_self _) h1 fun B' hB'=>?_
    simp only [if_true,Option.some.injEq] at hB'
    subst hB'
    exact h B hB
  ·have:(t' == t) = false:=by simpa using e
   simp [List.lookup,this] at hp'
 ·have:i < next:=Nat.lt_of_lt_of_le hi hkn
  exact g3 i this
section
variable {h:Heap} {nx:AId} {id sz ty lo n:Nat} {es es':List (List PVal)} {k:IntKind} {i:Int} {u:Nat}
theorem bt (ho:h id = some (.full sz ty es)) (h0:0 ≤ i) (h1:i ≤ (n:Int)) (hl:lo + n ≤ es.length) (hu:u = lo + i.toNat) {v:Nat} (hv:v = n - i.toNat):core (.slice sz true false) [.own id sz lo n,.int k i] h nx = some ⟨.own id sz u v,[id],[],[]⟩:=by
 subst hu hv
 simp only [core,ho,sbndC]
 rw [if_pos ⟨h0,h1⟩]
 simp only
 rw [if_pos ⟨trivial,trivial,hl⟩]
theorem dl (ho:h id = some (.full sz ty es)) (h0:0 ≤ i) (h1:i ≤ ((es.length - lo:Nat):Int)) (hl:lo + n ≤ es.length) (hu:u = i.toNat):core (.slice sz false true) [.own id sz lo n,.int k i] h nx = some ⟨.own id sz lo u,[id],[],[]⟩:=by
 subst hu
 simp only [core,ho,sbndC]
 rw [if_pos ⟨h0,h1⟩]
 simp only
 rw [if_pos ⟨trivial,trivial,hl⟩]
 simp
theorem gn {k':IntKind} {j:Int} (ho:h id = some (.full sz ty es)) (h0:0 ≤ i) (h1:i ≤ j) (h2:j ≤ ((es.length - lo:Nat):Int)) (hl:lo + n ≤ es.length) (hu:u = lo + i.toNat) {v:Nat} (hv:v = j.toNat - i.toNat):core (.slice sz true true) [.own id sz lo n,.int k i,.int k' j] h nx = some ⟨.own id sz u v,[id],[],[]⟩:=by
 subst hu hv
 simp only [core,ho,sbndC]
 rw [if_pos ⟨h0,h1,h2⟩]
 simp only
 rw [if_pos ⟨trivial,trivial,hl⟩]
theorem dN {x:PVal} {es2:List (List PVal)} {rh2:List AId} (ho:h id = some (.full sz ty es)) (hx:elemsU h n x = some (sz,es2,rh2)) (hl:lo + n ≤ es.length) (hn:0 < n) (he:overE es lo es2 = es') :
  core (.copy sz) [.own id sz lo n,x] h nx = some ⟨.int .i64 es2.length,id :: rh2,[(id,some (.full sz ty es'))],[]⟩:=by
 subst he
 simp only [core,ho,hx]
 rw [if_pos ⟨trivial,trivial,trivial,hl,hn⟩]
theorem gg {x:PVal} {by_:Nat} {es2:List (List PVal)} {rh2:List AId} (ho:h id = some (.full sz ty es)) (hx:elems h x = some (sz,es2,rh2) ∨ (elems h x = none ∧ elemsU h (lenP x) x = some (sz,es2,rh2))) (hn:n ≤ es.length) (hr:n + es2.length ≤ es.length)
  (he:overE es n es2 = es') (hu:u = n + es2.length):core (.append sz ty by_) [.own id sz 0 n,x] h nx = some ⟨.own nx sz 0 u,id :: rh2,[(nx,some (.full sz ty es')),(id,none)],[nx]⟩:=by
 subst he hu
 rcases hx with hx | ⟨hx,hx2⟩
 ·simp only [core,ho,hx,coreAppF]
  rw [if_pos ⟨trivial,trivial,trivial,trivial,trivial,hn⟩,if_pos hr]
 ·simp only [core,ho,hx,hx2,coreAppF]
  rw [if_pos ⟨trivial,trivial,trivial,trivial,trivial,hn⟩,if_pos hr]
theorem core_appFgrow {x:PVal} {by_:Nat} {es2:List (List PVal)} {rh2:List AId} (ho:h id = some (.full sz ty es)) (hx:elems h x = some (sz,es2,rh2)) (hn:n ≤ es.length) (h2:0 < es2.length) (hr:es.length < n + es2.length)
  (hb:(n + es2.length) * by_ ≤ 140737488355328) (hm:n + es2.length ≤ maxLen) (hk:knownL (es.take n) = true) (he:es.take n ++ es2 = es') (hu:u = n + es2.length) :
  core (.append sz ty by_) [.own id sz 0 n,x] h nx = some ⟨.own nx sz 0 u,id :: rh2,[(nx,some (.row sz ty es'))],[nx]⟩:=by
 subst he hu
 simp only [core,ho,hx,coreAppF]
 rw [if_pos ⟨trivial,trivial,trivial,trivial,trivial,hn⟩,if_neg (by omega),if_pos ⟨hb,hm,hk⟩]
theorem core_appZF {by_:Nat} {zs:List PVal} (ho:h id = some (.full sz ty es)) (hn:n ≤ es.length) (h0:0 < i) (hr:es.length < n + i.toNat)
  (hb:(n + i.toNat) * by_ ≤ 140737488355328) (hm:n + i.toNat ≤ maxLen) (hk:knownL (es.take n) = true) (he:es.take n ++ List.replicate i.toNat zs = es') (hu:u = n + i.toNat) :
  core (.appendZ sz ty by_ zs) [.own id sz 0 n,.int k i] h nx = some ⟨.own nx sz 0 u,[id],[(nx,some (.row sz ty es'))],[nx]⟩:=by
 subst he hu
 simp only [core,ho]
 rw [if_pos ⟨trivial,trivial,trivial,hn,h0,hr,hb,hm,hk⟩]
theorem core_clearF {zs:List PVal} (ho:h id = some (.full sz ty es)) (hl:lo + n ≤ es.length) (hn:0 < n) (he:overE es lo (List.replicate n zs) = es') :
  core (.clear sz zs) [.own id sz lo n] h nx = some ⟨.hole,[id],[(id,some (.full sz ty es'))],[]⟩:=by
 subst he
 simp only [core,ho]
 rw [if_pos ⟨trivial,trivial,hl,hn⟩]
theorem core_slice3F {k' k'':IntKind} {j x:Int} (ho:h id = some (.full sz ty es)) (h0:0 ≤ i) (h1:i ≤ j) (h2:j ≤ x) (h3:x ≤ (n:Int)):core (.slice3 sz) [.own id sz lo n,.int k i,.int k' j,.int k'' x] h nx = some ⟨.undef,[id],[],[]⟩:=by
 simp only [core,ho]
 rw [if_pos ⟨h0,h1,h2,h3⟩]
end
section
variable {P:Program} {n:Nat} {K:St → Prop} {l:List AO} {env:List (Nat × PVal)} {heap zj:List (AId × AObj)} {next zk d:Nat} {xs:List AX} {ps qs:List PVal} {dr:List (List Nat)} {racc:List Eff} {g:Option (Nat × Bool)}
theorem GO.callx {f:FuncId} {r r':PVal} {h0 h1:List (AId × AObj)} {k1:Nat} (sl bi:List Nat) (hd:Nat.blt d n = true) (hg:guarded env g = some true) (hx:evalXs env xs = some ps) (hv:viewP.go sl (pickH heap bi) ps = some qs)
  (h0':subH heap sl (pickH heap bi) sl 0 = some h0) (hs:slOk sl bi next = true) (hF:FnOk P f qs h0 sl.length r h1 k1) (hfl:bi = [] ∨ FlatR r h1) (hr:renP (tau sl next) r = r') (hh:happL (callWh sl next h1 k1) heap = zj) (hn:next + (k1 - sl.length) = zk)
  (k:GO P n K l ⟨(d,r') :: env,zj,zk⟩):GO P n K (⟨some d,g,.call f,xs⟩ :: l) ⟨env,heap,next⟩:=by
 subst hr hh hn
 have hd':dOk n (some d) = true:=by simpa [dOk,Nat.blt_eq] using hd
 have he:EffOk P n ⟨env,heap,next⟩ ⟨some d,g,.call f,xs⟩ (callEff ⟨env,heap,next⟩ ⟨some d,g,.call f,xs⟩ sl bi r h1 k1) :=
  ez rfl hd' hg hx hF hv h0' hs hfl
 have hgo:GO P n K (⟨some d,g,.call f,xs⟩ :: l) ⟨env,heap,next⟩ = RG P n [] K (⟨some d,g,.call f,xs⟩ :: l) [] ⟨env,heap,next⟩:=by
  rw [GO]
  have:opEff n ⟨env,heap,next⟩ ⟨some d,g,.call f,xs⟩ = none:=by
   unfold opEff
   simp only [hd',if_true,hg,hx]
   rfl
  rw [this]
 rw [hgo]
 refine RG.call he ?_
 simpa only [St.app,callEff,Option.map_some,envApp,List.length_range'] using k
theorem bd {f:FuncId} {r r':PVal} {h0 h1:List (AId × AObj)} {k1:Nat} (sl bi:List Nat) (hd:Nat.blt d n = true) (hg:guarded env g = some true) (hx:evalXs env xs = some ps) (hv:viewP.go sl (pickH heap bi) ps = some qs)
  (h0':subH heap sl (pickH heap bi) sl 0 = some h0) (hs:slOk sl bi next = true) (hF:FnOk P f qs h0 sl.length r h1 k1) (hfl:bi = [] ∨ FlatR r h1) (hr:renP (tau sl next) r = r') (hh:happL (callWh sl next h1 k1) heap = zj) (hn:next + (k1 - sl.length) = zk)
  (k:GX P n K l ⟨(d,r') :: env,zj,zk⟩):GX P n K (⟨some d,g,.call f,xs⟩ :: l) ⟨env,heap,next⟩:=⟨GO.callx sl bi hd hg hx hv h0' hs hF hfl hr hh hn k.run⟩
def OvlFn (P:Program) (f:FuncId) (sz:Nat):Prop:=∃ (fn:Func) (t tr e:TypeId),P.funcs[f]? = some fn ∧ (fn.name == "runtime.NumGoroutine") = false ∧ fn.body.isNone = true ∧ Extern.findNext fn = none ∧
 Extern.find fn = some (Extern.SlicesOverlaps.overlaps #[t,t] #[tr]) ∧ P.underlying t = some (.slice e) ∧ (P.info? e).map (·.size) = some sz
theorem blk_of {D:AId → Prop} {m:AId → Option Blk} {ok:Nat → Prop} {w:World} {ob:AObj} {sz ty:Nat} {es:List (List PVal)} {B:Blk} (ho:ob = .row sz ty es ∨ ob = .full sz ty es) (hn:0 < es.length) (h:RepObj w ok D m ob B) :
  ∃ b tot vs,B = .at b tot ∧ w.heap[b]? = some (.cells vs ty (0,0)) ∧ 0 < vs.size:=by
 cases B with
 | nil=>rcases ho with rfl | rfl <;> (obtain ⟨rfl,_⟩:=h; simp at hn)
 | «at» b tot =>
  rcases ho with rfl | rfl
  ·obtain ⟨vs,h1,h2,h3,h4,h5,_⟩:=h
   exact ⟨b,tot,vs,rfl,h1,by rw [h2]; exact Nat.mul_pos (by omega) h5⟩
  ·obtain ⟨vs,h1,h2,h3,h4,h5,_⟩:=h
   exact ⟨b,tot,vs,rfl,h1,by rw [h2]; exact Nat.mul_pos (by omega) h5⟩
theorem own_slice {b tot sz lo n:Nat} {v:Value} (h:OwnVal (.at b tot) sz lo n v) : ∃ a cap,v = .slice (some a) n cap ∧ a.block = b:=by
 obtain ⟨a,cap,e,h1,_⟩:=h
 exact ⟨a,cap,e,h1⟩
theorem ovl_ok {st:St} {ao:AO} {f:FuncId} {id1 id2 sz lo1 lo2 n1 n2 ty1 ty2:Nat} {ob1 ob2:AObj} {es1 es2:List (List PVal)} (hop:ao.op = .call f) (hf:OvlFn P f sz) (hd:dOk n ao.d = true) (hg:guarded st.env ao.g = some true)
  (hx:evalXs st.env ao.xs = some [.own id1 sz lo1 n1,.own id2 sz lo2 n2]) (h1:st.h id1 = some ob1) (h2:st.h id2 = some ob2) (hob1:ob1 = .row sz ty1 es1 ∨ ob1 = .full sz ty1 es1) (hob2:ob2 = .row sz ty2 es2 ∨ ob2 = .full sz ty2 es2) (hl1:0 < es1.length) (hl2:0 < es2.length) (hne:id1 ≠ id2) :
  EffOk P n st ao { rt:=tmpsG ao.g ++ tmpsX ao.xs,wt:=ao.d.map fun d=>(d,.bool false),rh:=[id1,id2],wh:=[],nw:=[] }:=by
 refine ⟨⟨0,rfl⟩,fun ops i o ho ht=>?_⟩
 obtain ⟨xs,g1,g2,g3,g4⟩:=bA ht
 intro rr ds D m ok env heap a w Q K hS hrt hrh hnw hK
 simp only at hrt hrh hnw hK
 have hdd : ∀ t,o.dst = some t → t < n:=by
  intro t e
  rw [g4,e] at hd
  simpa [dOk] using hd
 have hw:=cP (P:=P) hS g2 hg fun t ht=>hrt t (List.mem_append_left _ ht)
 have hreps:=ch (P:=P) hS g3 hx fun t ht=>hrt t (List.mem_append_right _ ht)
 unfold wpOpIn
 simp only [ho,hw,if_true]
 unfold Oper.wpIn
 refine ⟨fun _ _=>trivial,?_⟩
 rw [Oper.semAt_eq _ _ _ (cq ht (by rw [hop]; exact fun h=>by cases h))]
 rw [hop] at g1
 replace g1:=g1.resolve_right (fun h=>by cases h)
 have key:Out P o a.eval D m ok heap w { v:=.bool false,rh:=[id1,id2] }:=by
  generalize hoo:o.op = oo at g1
  unfold trans at g1
  split at g1
  all_goals try (first
   | (injection g1 with g1; injection g1 with e1 e2; cases e1; done)
   | cases g1)
  all_goals try (first
   | (obtain ⟨_,_,e1⟩:=Option.map_eq_some_iff.1 g1; injection e1 with e1 e2; cases e1; done)
   | (repeat' split at g1) <;> first
    | cases g1
    | (injection g1 with g1; injection g1 with e1 e2; cases e1; done)
    | (obtain ⟨_,_,e1⟩:=Option.bind_eq_some_iff.1 g1; split at e1 <;> first | (cases e1; done) | (injection e1 with e1; injection e1 with e1 e2; cases e1; done))
    | (obtain ⟨_,_,e1⟩:=Option.map_eq_some_iff.1 g1; injection e1 with e1 e2; cases e1; done))
  rename_i args ats
  obtain ⟨v1,vs1,ev,r1,hr2⟩:=hreps.uncons
  obtain ⟨v2,vs2,ev2,r2,hr3⟩:=hr2.uncons
  have ev3:=hr3.unnil
  subst ev3 ev2
  obtain ⟨B1,hB1,hobj1⟩:=hS.hp.obj id1 ob1 (by rw [hrh id1 (by simp)]; exact h1)
  obtain ⟨B2,hB2,hobj2⟩:=hS.hp.obj id2 ob2 (by rw [hrh id2 (by simp)]; exact h2)
  obtain ⟨b1,t1,vs1,rfl,c1,d1⟩:=blk_of hob1 hl1 hobj1
  obtain ⟨b2,t2,vs2,rfl,c2,d2⟩:=blk_of hob2 hl2 hobj2
  cases r1 with
  | own _ _ p1 =>
   cases r2 with
   | own _ _ p2 =>
    obtain ⟨a1,cap1,e1,f1⟩:=own_slice (p1 _ hB1)
    obtain ⟨a2,cap2,e2,f2⟩:=own_slice (p2 _ hB2)
    obtain ⟨fn,t,tr,e,q1,q2,q3,q4,q5,q6,q7⟩:=hf
    have hbne:a1.block ≠ a2.block:=by
     rw [f1,f2]
     rintro rfl
     exact hne (hS.hp.inj _ _ _ _ _ hB1 hB2)
    obtain ⟨ti,hti,htz⟩:=Option.map_eq_some_iff.1 q7
    have hrun:(callFunc f #[v1,v2]).run P w = .ok (.value (.bool false)) w:=by
     rw [run_callFunc_extern q1 q2 q3 q4 q5,e1,e2,
      Lib.run_overlaps_apart w t tr e q6 sz (fun w=>by rw [← htz]; exact aQ hti) a1 a2 n1 cap1 n2 cap2 hbne ty1 ty2 vs1.size vs2.size (by simp [World.shape?,f1,c1]) (by simp [World.shape?,f2,c2]) (by omega)
       (by simp [World.frozen?,f1,c1]) (by simp [World.frozen?,f1,c1])]
     rfl
    refine aC hS.hp _ (v:=.bool false) ?_ .bool
    have hargs:args.map a.eval = #[v1,v2]:=by
     apply Array.ext'
     simpa using ev
    unfold execOp
    simp only [hoo]
    simp only [resolve,Act.eval,Deferred.ofValue,Sem.run_bind,Sem.run_pure,Result.andThen_ok,invoke]
    rw [← hrun]
    congr 2
    rw [← hargs]
    apply Array.ext'
    simp
 obtain ⟨v,w',D',m',hrun,k1,k2,k3,k4,k5⟩:=key
 have hD : ∀ id,D id → D' id:=fun id h=>(k4 id).2 (.inl h)
 have:=hK D' m' (a.put o.dst v) w' (by rw [g4]; exact hS.put k1 k2 hD k5 o.dst _ v hdd k3) k2 k5 k4
 rcases hrun with hrun | ⟨rfl,hrun⟩
 ·rw [hrun]; exact this
 ·rw [hrun]; exact this
theorem GO.ovl {f:FuncId} {id1 id2 sz lo1 lo2 n1 n2 ty1 ty2:Nat} {ob1 ob2:AObj} {es1 es2:List (List PVal)} (hd:Nat.blt d n = true) (hg:guarded env g = some true) (hf:OvlFn P f sz)
  (hx:evalXs env xs = some [.own id1 sz lo1 n1,.own id2 sz lo2 n2]) (h1:heap.lookup id1 = some ob1) (h2:heap.lookup id2 = some ob2) (hob1:ob1 = .row sz ty1 es1 ∨ ob1 = .full sz ty1 es1) (hob2:ob2 = .row sz ty2 es2 ∨ ob2 = .full sz ty2 es2) (hl1:0 < es1.length) (hl2:0 < es2.length) (hne:id1 ≠ id2)
  (k:GO P n K l ⟨(d,.bool false) :: env,heap,next⟩):GO P n K (⟨some d,g,.call f,xs⟩ :: l) ⟨env,heap,next⟩:=by
 have hd':dOk n (some d) = true:=by simpa [dOk,Nat.blt_eq] using hd
 have he:=ovl_ok (P:=P) (n:=n) (st:=⟨env,heap,next⟩) (ao:=⟨some d,g,.call f,xs⟩) rfl hf hd' hg hx h1 h2 hob1 hob2 hl1 hl2 hne
 have hgo:GO P n K (⟨some d,g,.call f,xs⟩ :: l) ⟨env,heap,next⟩ = RG P n [] K (⟨some d,g,.call f,xs⟩ :: l) [] ⟨env,heap,next⟩:=by
  rw [GO]
  have:opEff n ⟨env,heap,next⟩ ⟨some d,g,.call f,xs⟩ = none:=by
   unfold opEff
   simp only [hd',if_true,hg,hx]
   rfl
  rw [this]
 rw [hgo]
 refine RG.call he ?_
 simpa only [St.app,Option.map_some,envApp,happL,List.length_nil,Nat.add_zero] using k
end
section
variable {P:Program} {n k0:Nat} {K:St → Prop} {l:List AO} {env env':List (Nat × PVal)} {heap zj:List (AId × AObj)} {next zk d:Nat} {xs:List AX} {ps qs:List PVal} {dr:List (List Nat)} {racc:List Eff} {g:Option (Nat × Bool)} {Q:Exit → St → Prop} {r:List AC}
theorem fx {f:FuncId} {r r':PVal} {h0 h1:List (AId × AObj)} {k1:Nat} (sl bi:List Nat) (hd:Nat.blt d n = true) (hg:guarded env g = some true) (hx:evalXs env xs = some ps) (hv:viewP.go sl (pickH heap bi) ps = some qs)
  (h0':subH heap sl (pickH heap bi) sl 0 = some h0) (hs:slOk sl bi next = true) (hF:FnOk P f qs h0 sl.length r h1 k1) (hfl:bi = [] ∨ FlatR r h1) (hr:renP (tau sl next) r = r') (hh:happL (callWh sl next h1 k1) heap = zj) (hn:next + (k1 - sl.length) = zk)
  (k:RD P n dr K l ({ rt:=tmpsG g ++ tmpsX xs,wt:=some (d,.undef),rh:=sl ++ bi,wh:=(callWh sl next h1 k1).map fun x=>(x.1,none),nw:=[] } :: racc) ⟨(d,r') :: env,zj,zk⟩):RD P n dr K (⟨some d,g,.call f,xs⟩ :: l) racc ⟨env,heap,next⟩:=by
 subst hr hh hn
 have hd':dOk n (some d) = true:=by simpa [dOk,Nat.blt_eq] using hd
 refine dS (ez (st:=⟨env,heap,next⟩) (ao:=⟨some d,g,.call f,xs⟩) rfl hd' hg hx hF (sl:=sl) (bi:=bi) hv h0' hs hfl) ?_
 simpa only [St.app,Eff.er,callEff,Option.map_some,envApp,List.length_range'] using k
theorem Conv.adoptB {id j sz:Nat} {ty:TypeId} {cs:List PVal} (ho:heap.lookup id = some (.box cs)) (hj:cs[j]? = some .nils) (hsz:0 < sz):Conv k0 ⟨env,heap,next⟩ ⟨env,setH id (.box (cs.set j (.own next sz 0 0))) heap ++ [(next,.row sz ty [])],next + 1⟩:=by
 intro n ds m ok a w hk hS
 have hk:k0 ≤ next:=hk
 have hS:Sim n ds (· < next) m ok (fun t=>env.lookup t) (fun i=>heap.lookup i) a w:=hS
 have hmn:m next = none:=by
  cases hm:m next with
  | none=>rfl
  | some B=>exact absurd (hS.hp.dom next B hm) (Nat.lt_irrefl _)
 let m':AId → Option Blk:=fun id=>if id = next then some .nil else m id
 have hm' : ∀ id,id < next → m' id = m id:=fun id hid=>if_neg (Nat.ne_of_lt hid)
 have hat : ∀ id b t,m' id = some (.at b t) → m id = some (.at b t):=fun id b t he=>by
  by_cases hid:id = next
  ·subst hid; simp [m'] at he
  ·simpa [m',hid] using he
 have hst:Step m w m' w:=⟨rfl,rfl,rfl,Nat.le_refl _,fun _ _ _=>rfl,fun id b t he=>.inl ⟨id,t,hat id b t he⟩⟩
 have hD : ∀ id,id < next → id < next + 1:=fun id hid=>by omega
 have hmm : ∀ id,id < next → m' id = m id ∨ m' id = none:=fun id hid=>.inl (hm' id hid)
 refine ⟨m',⟨⟨fun i o hi=>?_,fun id B hB=>?_,fun id id' b t t' h1 h2=>hS.hp.inj id id' b t t' (hat _ _ _ h1) (hat _ _ _ h2),fun id b t he=>hS.hp.lt id b t (hat _ _ _ he),fun id b t he=>hS.hp.okm id b t (hat _ _ _ he),hS.hp.fresh,fun x hx=>⟨fun id t he=>(hS.hp.glob x hx).1 id t (hat _ _ _ he),(hS.hp.glob x hx).2⟩⟩,fun t' p hp=>?_,hS.df,hS.sz⟩,hst,fun id hid=>.inl (hm' id (Nat.lt_of_lt_of_le hid hk)),Nat.le_succ_of_le hk⟩
 ·rcases cH (show (setH id (.box (cs.set j (.own next sz 0 0))) heap ++ [(next,AObj.row sz ty [])]).lookup i = some o from hi) with h1 | ⟨h0,h1,h2⟩
  ·rw [cm] at h1
   split at h1
   ·rename_i e
    subst e
    injection h1 with h1
    subst h1
    obtain ⟨B,hB,hrep⟩:=hS.hp.obj i _ ho
    have hlt:=hS.hp.dom i B hB
    refine ⟨B,by rw [hm' i hlt]; exact hB,?_⟩
    cases B with
    | nil=>exact hrep.elim
    | «at» b t =>
     obtain ⟨vs,ty',h1,h2,h3⟩:=hrep
     refine ⟨vs,ty',h1,by simpa using h2,fun q p hq=>?_⟩
     by_cases hqj:q = j
     ·subst hqj
      have hlt':q < cs.length:=(List.getElem?_eq_some_iff.1 hj).1
      have:p = .own next sz 0 0:=by simpa [List.getElem?_set,hlt'] using hq.symm
      subst this
      obtain ⟨v,b1,b2,b3⟩:=h3 q _ hj
      refine ⟨v,b1,b2,?_⟩
      cases b3
      refine .own (Nat.lt_succ_self _) rfl fun B hB=>?_
      have:B = .nil:=by simpa [m'] using hB.symm
      subst this
      exact ⟨⟨_,rfl⟩,rfl,rfl⟩
     ·have hq':cs[q]? = some p:=by
       rw [List.getElem?_set] at hq
       simpa [show ¬ j = q from fun e=>hqj e.symm] using hq
      obtain ⟨v,b1,b2,b3⟩:=h3 q p hq'
      exact ⟨v,b1,b2,b3.step hst hD hmm⟩
   ·obtain ⟨B,hB,hrep⟩:=hS.hp.obj i o h1
    have hlt:=hS.hp.dom i B hB
    exact ⟨B,by rw [hm' i hlt]; exact hB,hrep.step hst (fun _ _ _=>rfl) hD hmm⟩
  ·subst h1 h2
   exact ⟨.nil,by simp [m'],rfl,hsz⟩
 ·by_cases hid:id = next
  ·exact hid ▸ Nat.lt_succ_self next
  ·have:m id = some B:=by simpa [m',hid] using hB
   exact hD _ (hS.hp.dom id B this)
 ·obtain ⟨v,hv,hrep⟩:=hS.tmp t' p hp
  exact ⟨v,hv,hrep.step hst hD hmm⟩
theorem WK.adoptB {id j sz:Nat} {ty:TypeId} {cs:List PVal} (ho:heap.lookup id = some (.box cs)) (hj:cs[j]? = some .nils) (hsz:0 < sz) (hr:r ≠ []) (hh:setH id (.box (cs.set j (.own next sz 0 0))) heap ++ [(next,.row sz ty [])] = zj)
  (k:WK P n k0 r Q ⟨env,zj,next + 1⟩):WK P n k0 r Q ⟨env,heap,next⟩:=by
 subst hh
 exact bz (Conv.adoptB ho hj hsz) k hr
end
theorem cE {heap:List (AId × AObj)} {sl:List Nat} {bs:List (AId × AObj)} {k:Nat}:subH heap sl bs [] k = some []:=rfl
theorem kx {heap l:List (AId × AObj)} {sl:List Nat} {bs:List (AId × AObj)} {id k:Nat} {r:List Nat} {o o':AObj} (ho:heap.lookup id = some o) (hv:viewO sl bs o = some o') (hr:subH heap sl bs r (k + 1) = some l):subH heap sl bs (id :: r) k = some ((k,o') :: l):=by
 simp only [subH,ho,hv,hr]
theorem bN {sl:List Nat} {bs:List (AId × AObj)} {cs l:List PVal} (h:viewP.go sl bs cs = some l):viewO sl bs (.box cs) = some (.box l):=by
 simp only [viewO,h]
theorem eN {α:Type} {c:α → List PVal} (hc : ∀ x,(c x).all (fun p=>!p.isU) = true) (L:List α):knownL (L.map c) = true:=by
 simp only [knownL,List.all_eq_true,List.mem_map]
 rintro _ ⟨x,_,rfl⟩ p hp
 exact List.all_eq_true.1 (hc x) p hp
inductive InP:PVal → PVal → Prop where
 | refl {p:PVal}:InP p p
 | agg {cs:List PVal} {p q:PVal} (j:Nat) (h:cs[j]? = some p) (k:InP p q):InP (.agg cs) q
 | rptr {cs:List PVal} {p q:PVal} (j:Nat) (h:cs[j]? = some p) (k:InP p q):InP (.rptr cs) q
 | ro {sz:Nat} {es:List (List PVal)} {e:List PVal} {p q:PVal} (i j:Nat) (he:es[i]? = some e) (hp:e[j]? = some p) (k:InP p q):InP (.ro sz es) q
theorem InP.rep {w:World} {ok:Nat → Prop} {D:AId → Prop} {m:AId → Option Blk} {p q:PVal} (h:InP p q) : ∀ {c:Bool} {v:Value},Rep w ok D m c p v → ∃ (c':Bool) (v':Value),Rep w ok D m c' q v':=by
 induction h with
 | refl=>exact fun h=>⟨_,_,h⟩
 | agg j h _ ih =>
  intro c v hr
  cases hr with
  | agg hl h1 h2 =>
   have hlt:=(List.getElem?_eq_some_iff.1 h).1
   rw [hl] at hlt
   exact ih (h2 j _ _ h (List.getElem?_eq_getElem hlt))
 | rptr j h _ ih =>
  intro c v hr
  cases hr with
  | rptr vs h1 h2=>exact ih (h2 j _ h)
 | ro i j he hp _ ih =>
  intro c v hr
  cases hr with
  | ro vs hn hcp hm hs hA hcell h2=>exact ih (h2 i j _ _ he hp)
section
variable {P:Program} {n k0:Nat} {Q:Exit → St → Prop} {st:St} {r:List AC}
theorem WK.lenI {t sz:Nat} {p:PVal} {es:List (List PVal)} (h:st.env.lookup t = some p) (hi:InP p (.ro sz es)) (hr:r ≠ []) (k:es.length ≤ 9223372036854775807 → WK P n k0 r Q st):WK P n k0 r Q st:=by
 cases r with
 | nil=>exact absurd rfl hr
 | cons c r =>
  intro c' hc rr ds m ok a w hk hS
  obtain ⟨v,hv,hrep⟩:=hS.tmp t _ h
  obtain ⟨_,_,hq⟩:=hi.rep hrep
  exact k hq.len c' hc rr ds m ok a w hk hS
end
theorem map_at {α β:Type} {c:α → β} {L:List α} {i:Nat} {x:α} (h:L[i]? = some x):(L.map c)[i]? = some (c x):=by rw [List.getElem?_map,h]; rfl
section
variable {h:Heap} {nx id sz j off o':Nat} {ty:TypeId} {α:Type} {c:α → List PVal} {L:List α} {x x':α} {v v':PVal}
theorem aK {m:Nat} {ik:IntKind} {i:Int} (ho:h id = some (.row sz ty (L.map c))) (hi:i = (j:Int)) (hj:j < m) (hm:m ≤ L.length):core (.idxA sz) [.own id sz 0 m,.int ik i] h nx = some { v:=.eptr id sz j 0,rh:=[id] }:=by
 subst hi
 simp only [core,ho]
 rw [if_pos ⟨trivial,trivial,by rw [List.length_map]; omega,by omega,by omega⟩]
 simp
theorem cy {o:Nat} (ho:h id = some (.row sz ty (L.map c))) (hj:j < L.length) (hv:o + off = o'):core (.fldA off) [.eptr id sz j o] h nx = some { v:=.eptr id sz j o',rh:=[id] }:=by
 subst hv
 simp only [core,ho]
 rw [if_pos ⟨trivial,by rw [List.length_map]; exact hj⟩]
theorem bf {kd:Option Nat} (ho:h id = some (.row sz ty (L.map c))) (he:L[j]? = some x) (hv:peek kd (c x) off = some v'):core (.load kd) [.eptr id sz j off] h nx = some { v:=v',rh:=[id] }:=by
 have hj:=(List.getElem?_eq_some_iff.1 he).1
 have hg':(L.map c).getD j [] = c x:=by rw [List.getD_eq_getElem?_getD,List.getElem?_map,he]; rfl
 simp only [core,ho]
 rw [if_pos ⟨trivial,by rw [List.length_map]; exact hj⟩,hg',hv]
 rfl
theorem bw {nn:Nat} {vs:List PVal} (ho:h id = some (.row sz ty (L.map c))) (he:L[j]? = some x) (hv:v.cells = some vs) (hn:vs.length = nn) (hoff:Nat.ble (off + nn) sz = true) (hc:v.closed = true) (hs:splice (c x) off vs = c x') :
  core (.store nn) [.eptr id sz j off,v] h nx = some { v:=.hole,rh:=[id],wh:=[(id,some (.row sz ty ((L.set j x').map c)))] }:=by
 have hj:=(List.getElem?_eq_some_iff.1 he).1
 have hg':(L.map c).getD j [] = c x:=by rw [List.getD_eq_getElem?_getD,List.getElem?_map,he]; rfl
 simp only [core,ho,hv]
 rw [if_pos ⟨trivial,by rw [List.length_map]; exact hj,hn,Nat.le_of_ble_eq_true hoff,hc⟩,hg',hs,List.map_set]
end
def okB (B:List Nat):Nat → List (List Nat) → Bool
 | _,[]=>true
 | j,ds :: r=>decide (B.getD j 0 = ds.foldl (fun s d=>s ||| (1 <<< d) ||| B.getD d 0) 0) && (ds.all (fun d=>decide (d < j)) && okB B (j + 1) r)
def drawOkB (dirs:List (List Nat)) (B:List Nat) (es:List Eff):Bool :=
 (List.range es.length).all fun j=>(dirs.getD j []).all (fun d=>decide (d < j)) &&
  (List.range j).all fun i=>(B.getD j 0).testBit i || match es[i]?,es[j]? with
   | some e,some f=>indep e f
   | _,_=>true
theorem foldl_bit (B:List Nat) (i:Nat) : ∀ (ds:List Nat) (s:Nat),(ds.foldl (fun s d=>s ||| (1 <<< d) ||| B.getD d 0) s).testBit i = true → s.testBit i = true ∨ ∃ d ∈ ds,i = d ∨ (B.getD d 0).testBit i = true
 | [],s,h=>.inl h
 | d :: ds,s,h=>by
  simp only [List.foldl_cons] at h
  rcases foldl_bit B i ds _ h with h1 | ⟨x,hx,h1⟩
  ·simp only [Nat.testBit_or,Bool.or_eq_true] at h1
   rcases h1 with (h1 | h1) | h1
   ·exact .inl h1
   ·refine .inr ⟨d,List.mem_cons_self,.inl ?_⟩
    rw [Nat.one_shiftLeft,Nat.testBit_two_pow] at h1
    exact (of_decide_eq_true h1).symm
   ·exact .inr ⟨d,List.mem_cons_self,.inr h1⟩
  ·exact .inr ⟨x,List.mem_cons_of_mem _ hx,h1⟩
theorem fw (B:List Nat) : ∀ (r acc:List (List Nat)),okB B acc.length r = true → (∀ k,k < acc.length → ∀ i,(B.getD k 0).testBit i = true → i ∈ acc.getD k []) →
  ∀ k,k < acc.length + r.length → ∀ i,(B.getD k 0).testBit i = true → i ∈ (befores r acc).getD k []
 | [],acc,_,h,k,hk,i,hi=>h k (by simpa using hk) i hi
 | ds :: r,acc,hok,h,k,hk,i,hi=>by
  simp only [okB,Bool.and_eq_true,decide_eq_true_eq] at hok
  obtain ⟨h1,h2,h3⟩:=hok
  unfold befores
  refine fw B r (acc ++ [ds ++ ds.flatMap fun d=>acc.getD d []]) (by simpa using h3) (fun k hk i hi=>?_) k (by simp only [List.length_append,List.length_cons,List.length_nil] at hk ⊢; omega) i hi
  by_cases hlt:k < acc.length
  ·have:=h k hlt i hi
   rw [List.getD_eq_getElem?_getD,List.getElem?_append_left hlt,← List.getD_eq_getElem?_getD]
   exact this
  ·have e:k = acc.length:=by simp at hk; omega
   subst e
   rw [h1] at hi
   rw [List.getD_eq_getElem?_getD,List.getElem?_append_right (Nat.le_refl _),Nat.sub_self]
   simp only [List.getElem?_cons_zero,Option.getD_some,List.mem_append,List.mem_flatMap]
   rcases foldl_bit B i ds 0 hi with h4 | ⟨d,hd,h4⟩
   ·simp at h4
   ·rcases h4 with rfl | h4
    ·exact .inl hd
    ·have hdl:d < acc.length:=of_decide_eq_true (List.all_eq_true.1 h2 d hd)
     exact .inr ⟨d,hd,h d hdl i h4⟩
theorem drawOk_of {dirs:List (List Nat)} {B:List Nat} {es:List Eff} (hl:es.length = dirs.length) (h1:okB B 0 dirs = true) (h2:drawOkB dirs B es = true):drawOk dirs es = true:=by
 have hb:=fw B dirs [] h1 (fun k hk=>absurd hk (Nat.not_lt_zero _))
 simp only [drawOkB,drawOk,List.all_eq_true,List.mem_range,Bool.and_eq_true,Bool.or_eq_true,decide_eq_true_eq] at h2 ⊢
 intro j hj
 obtain ⟨h3,h4⟩:=h2 j hj
 refine ⟨h3,fun i hi=>?_⟩
 rcases h4 i hi with h5 | h5
 ·left
  rw [List.contains_iff_mem]
  exact hb j (by simp; omega) i h5
 ·exact .inr h5
theorem da {P:Program} {n:Nat} {dr:List (List Nat)} {K:St → Prop} {racc:List Eff} {st:St} (B:List Nat) (hl:racc.reverse.length = dr.length) (h1:okB B 0 dr = true) (h2:drawOkB dr B racc.reverse = true) (k:K st):RD P n dr K [] racc st :=
 aH (drawOk_of hl h1 h2) k
section
variable {P:Program} {n k0:Nat} {K:St → Prop} {l:List AO} {env:List (Nat × PVal)} {heap zj:List (AId × AObj)} {next zk d:Nat} {op:AOp} {x:AX} {xs:List AX} {p v:PVal} {ps:List PVal} {rh:List AId} {wh:List (AId × Option AObj)} {nw:List AId} {dr:List (List Nat)} {racc:List Eff} {g:Option (Nat × Bool)} {Q:Exit → St → Prop} {r:List AC}
theorem gT (h:evalX env x = some p):evalXs env [x] = some [p]:=by simp only [evalXs,h]
theorem af (hx:evalX env x = some p) (k:GX P n K l ⟨(d,p) :: env,heap,next⟩) (hd:Nat.blt d n = true:=by rfl) (hg:guarded env g = some true:=by rfl):GX P n K (⟨some d,g,.mov,[x]⟩ :: l) ⟨env,heap,next⟩:=ar hd hg (gT hx) rfl rfl k
theorem aG (hx:evalX env x = some p) (k:RD P n dr K l ({ rt:=tmpsG g ++ tmpsX [x],wt:=some (d,.undef),rh:=[],wh:=[],nw:=[] } :: racc) ⟨(d,p) :: env,heap,next⟩) (hd:Nat.blt d n = true:=by rfl) (hg:guarded env g = some true:=by rfl) :
  RD P n dr K (⟨some d,g,.mov,[x]⟩ :: l) racc ⟨env,heap,next⟩:=aF hd hg (gT hx) rfl rfl k
theorem ae (v':PVal) (k:GX P n K l ⟨(d,v') :: env,heap,next⟩) (hd:Nat.blt d n = true:=by rfl) (hg:guarded env g = some true:=by rfl) (hx:evalXs env xs = some ps:=by rfl) (hc:core op ps (fun id=>heap.lookup id) next = some ⟨v,rh,[],[]⟩:=by rfl) (hv:v = v':=by rfl) :
  GX P n K (⟨some d,g,op,xs⟩ :: l) ⟨env,heap,next⟩:=ar hd hg hx hc hv k
theorem au (v':PVal) (k:RD P n dr K l ({ rt:=tmpsG g ++ tmpsX xs,wt:=some (d,.undef),rh:=rh,wh:=[],nw:=[] } :: racc) ⟨(d,v') :: env,heap,next⟩) (hd:Nat.blt d n = true:=by rfl) (hg:guarded env g = some true:=by rfl) (hx:evalXs env xs = some ps:=by rfl)
  (hc:core op ps (fun id=>heap.lookup id) next = some ⟨v,rh,[],[]⟩:=by rfl) (hv:v = v':=by rfl):RD P n dr K (⟨some d,g,op,xs⟩ :: l) racc ⟨env,heap,next⟩:=aF hd hg hx hc hv k
theorem ah {ops:List AO} {b:AC} (qv:P.follows .mixedOrders = true) (h:GX P n (WK P n k0 (b :: r) Q) ops ⟨env,heap,next⟩):WK P n k0 (.seq (.reg [] ops) b :: r) Q ⟨env,heap,next⟩:=ak (az qv h)
end
def insAC (sz:Nat) (ty:TypeId) (by_:Nat) (zs:List PVal) (fo fr:FuncId):AC :=
  .seq (.reg []
    [⟨some 6,none,.mov,[.c .nils]⟩])
  (.seq (.reg []
    [⟨some 10,none,.mov,[.t 0]⟩,
     ⟨some 11,none,.mov,[.t 1]⟩,
     ⟨some 12,none,.slice sz true false,[.t 10,.t 11]⟩])
  (.seq (.reg []
    [⟨some 13,none,.mov,[.t 2]⟩,
     ⟨some 14,none,.lenL,[.t 13]⟩,
     ⟨some 7,none,.mov,[.t 14]⟩])
  (.seq (.seq (.reg []
    [⟨some 15,none,.mov,[.t 7]⟩,
     ⟨some 16,none,.bin .eql .scal,[.t 15,.c (.int .i64 0)]⟩])
  (.cond (.t 16)
  (.seq (.reg []
    [⟨some 17,none,.mov,[.t 0]⟩,
     ⟨some 6,none,.mov,[.t 17]⟩])
  .ret)
  .skip))
  (.seq (.reg []
    [⟨some 18,none,.mov,[.t 0]⟩,
     ⟨some 19,none,.lenL,[.t 18]⟩,
     ⟨some 8,none,.mov,[.t 19]⟩])
  (.seq (.seq (.reg []
    [⟨some 20,none,.mov,[.t 1]⟩,
     ⟨some 21,none,.mov,[.t 8]⟩,
     ⟨some 22,none,.bin .eql .scal,[.t 20,.t 21]⟩])
  (.cond (.t 22)
  (.seq (.reg []
    [⟨some 23,none,.mov,[.t 0]⟩,
     ⟨some 24,none,.mov,[.t 2]⟩,
     ⟨some 25,none,.append sz ty by_,[.t 23,.t 24]⟩,
     ⟨some 6,none,.mov,[.t 25]⟩])
  .ret)
  .skip))
  (.seq (.seq (.reg []
    [⟨some 26,none,.mov,[.t 8]⟩,
     ⟨some 27,none,.mov,[.t 7]⟩,
     ⟨some 28,none,.bin .add .scal,[.t 26,.t 27]⟩,
     ⟨some 29,none,.mov,[.t 0]⟩,
     ⟨some 30,none,.capL,[.t 29]⟩,
     ⟨some 31,none,.bin .gtr .scal,[.t 28,.t 30]⟩])
  (.cond (.t 31)
  (.seq (.reg []
    [⟨some 32,none,.mov,[.t 0]⟩,
     ⟨some 33,none,.mov,[.t 1]⟩,
     ⟨some 34,none,.slice sz false true,[.t 32,.t 33]⟩,
     ⟨some 35,none,.mov,[.t 8]⟩,
     ⟨some 36,none,.mov,[.t 7]⟩,
     ⟨some 37,none,.bin .add .scal,[.t 35,.t 36]⟩,
     ⟨some 38,none,.mov,[.t 1]⟩,
     ⟨some 39,none,.bin .sub .scal,[.t 37,.t 38]⟩,
     ⟨some 40,none,.appendZ sz ty by_ zs,[.t 34,.t 39]⟩,
     ⟨some 9,none,.mov,[.t 40]⟩])
  (.seq (.reg []
    [⟨some 41,none,.mov,[.t 9]⟩,
     ⟨some 42,none,.mov,[.t 1]⟩,
     ⟨some 43,none,.slice sz true false,[.t 41,.t 42]⟩,
     ⟨some 44,none,.mov,[.t 2]⟩,
     ⟨some 45,none,.copy sz,[.t 43,.t 44]⟩])
  (.seq (.reg [[],[],[],[1,2],[0,3],[],[],[5,6],[4,7]]
    [⟨some 46,none,.mov,[.t 9]⟩,
     ⟨some 47,none,.mov,[.t 1]⟩,
     ⟨some 48,none,.mov,[.t 7]⟩,
     ⟨some 49,none,.bin .add .scal,[.t 47,.t 48]⟩,
     ⟨some 50,none,.slice sz true false,[.t 46,.t 49]⟩,
     ⟨some 51,none,.mov,[.t 0]⟩,
     ⟨some 52,none,.mov,[.t 1]⟩,
     ⟨some 53,none,.slice sz true false,[.t 51,.t 52]⟩,
     ⟨some 54,none,.copy sz,[.t 50,.t 53]⟩])
  (.seq (.reg []
    [⟨some 55,none,.mov,[.t 9]⟩,
     ⟨some 6,none,.mov,[.t 55]⟩])
  .ret))))
  .skip))
  (.seq (.reg []
    [⟨some 56,none,.mov,[.t 0]⟩,
     ⟨some 57,none,.mov,[.t 8]⟩,
     ⟨some 58,none,.mov,[.t 7]⟩,
     ⟨some 59,none,.bin .add .scal,[.t 57,.t 58]⟩,
     ⟨some 60,none,.slice sz false true,[.t 56,.t 59]⟩,
     ⟨some 0,none,.mov,[.t 60]⟩])
  (.seq (.seq (.reg []
    [⟨some 61,none,.mov,[.t 2]⟩,
     ⟨some 62,none,.mov,[.t 0]⟩,
     ⟨some 63,none,.mov,[.t 1]⟩,
     ⟨some 64,none,.mov,[.t 7]⟩,
     ⟨some 65,none,.bin .add .scal,[.t 63,.t 64]⟩,
     ⟨some 66,none,.slice sz true false,[.t 62,.t 65]⟩,
     ⟨some 67,none,.call fo,[.t 61,.t 66]⟩,
     ⟨some 68,none,.unNot,[.t 67]⟩])
  (.cond (.t 68)
  (.seq (.reg [[],[],[],[1,2],[0,3],[],[],[5,6],[4,7]]
    [⟨some 69,none,.mov,[.t 0]⟩,
     ⟨some 70,none,.mov,[.t 1]⟩,
     ⟨some 71,none,.mov,[.t 7]⟩,
     ⟨some 72,none,.bin .add .scal,[.t 70,.t 71]⟩,
     ⟨some 73,none,.slice sz true false,[.t 69,.t 72]⟩,
     ⟨some 74,none,.mov,[.t 0]⟩,
     ⟨some 75,none,.mov,[.t 1]⟩,
     ⟨some 76,none,.slice sz true false,[.t 74,.t 75]⟩,
     ⟨some 77,none,.copy sz,[.t 73,.t 76]⟩])
  (.seq (.reg []
    [⟨some 78,none,.mov,[.t 0]⟩,
     ⟨some 79,none,.mov,[.t 1]⟩,
     ⟨some 80,none,.slice sz true false,[.t 78,.t 79]⟩,
     ⟨some 81,none,.mov,[.t 2]⟩,
     ⟨some 82,none,.copy sz,[.t 80,.t 81]⟩])
  (.seq (.reg []
    [⟨some 83,none,.mov,[.t 0]⟩,
     ⟨some 6,none,.mov,[.t 83]⟩])
  .ret)))
  .skip))
  (.seq (.reg []
    [⟨some 84,none,.mov,[.t 0]⟩,
     ⟨some 85,none,.mov,[.t 8]⟩,
     ⟨some 86,none,.slice sz true false,[.t 84,.t 85]⟩,
     ⟨some 87,none,.mov,[.t 2]⟩,
     ⟨some 88,none,.copy sz,[.t 86,.t 87]⟩])
  (.seq (.reg []
    [⟨some 89,none,.mov,[.t 0]⟩,
     ⟨some 90,none,.mov,[.t 1]⟩,
     ⟨some 91,none,.slice sz true false,[.t 89,.t 90]⟩,
     ⟨some 92,none,.mov,[.t 7]⟩,
     ⟨some 93,none,.call fr,[.t 91,.t 92]⟩])
  (.seq (.reg []
    [⟨some 94,none,.mov,[.t 0]⟩,
     ⟨some 6,none,.mov,[.t 94]⟩])
  .ret)))))))))))
def delAC (sz:Nat) (ty:TypeId) (by_:Nat) (zs:List PVal):AC :=
  .seq (.reg []
    [⟨some 6,none,.mov,[.c .nils]⟩])
  (.seq (.reg []
    [⟨some 8,none,.mov,[.t 0]⟩,
     ⟨some 9,none,.mov,[.t 1]⟩,
     ⟨some 10,none,.mov,[.t 2]⟩,
     ⟨some 11,none,.mov,[.t 0]⟩,
     ⟨some 12,none,.lenL,[.t 11]⟩,
     ⟨some 13,none,.slice3 sz,[.t 8,.t 9,.t 10,.t 12]⟩])
  (.seq (.seq (.reg []
    [⟨some 14,none,.mov,[.t 1]⟩,
     ⟨some 15,none,.mov,[.t 2]⟩,
     ⟨some 16,none,.bin .eql .scal,[.t 14,.t 15]⟩])
  (.cond (.t 16)
  (.seq (.reg []
    [⟨some 17,none,.mov,[.t 0]⟩,
     ⟨some 6,none,.mov,[.t 17]⟩])
  .ret)
  .skip))
  (.seq (.reg []
    [⟨some 18,none,.mov,[.t 0]⟩,
     ⟨some 19,none,.lenL,[.t 18]⟩,
     ⟨some 7,none,.mov,[.t 19]⟩])
  (.seq (.reg [[],[],[0,1],[],[],[3,4],[2,5],[6,6,0,1,2,3,4,5,6]]
    [⟨some 20,none,.mov,[.t 0]⟩,
     ⟨some 21,none,.mov,[.t 1]⟩,
     ⟨some 22,none,.slice sz false true,[.t 20,.t 21]⟩,
     ⟨some 23,none,.mov,[.t 0]⟩,
     ⟨some 24,none,.mov,[.t 2]⟩,
     ⟨some 25,none,.slice sz true false,[.t 23,.t 24]⟩,
     ⟨some 26,none,.append sz ty by_,[.t 22,.t 25]⟩,
     ⟨some 0,none,.mov,[.t 26]⟩])
  (.seq (.reg []
    [⟨some 27,none,.mov,[.t 0]⟩,
     ⟨some 28,none,.mov,[.t 0]⟩,
     ⟨some 29,none,.lenL,[.t 28]⟩,
     ⟨some 30,none,.mov,[.t 7]⟩,
     ⟨some 31,none,.slice sz true true,[.t 27,.t 29,.t 30]⟩,
     ⟨none,none,.clear sz zs,[.t 31]⟩])
  (.seq (.reg []
    [⟨some 32,none,.mov,[.t 0]⟩,
     ⟨some 6,none,.mov,[.t 32]⟩])
  .ret))))))
def cloneAC (sz:Nat) (ty:TypeId) (by_:Nat):AC :=
  .seq (.reg []
    [⟨some 2,none,.mov,[.c .nils]⟩])
  (.seq (.seq (.reg []
    [⟨some 3,none,.mov,[.t 0]⟩,
     ⟨some 4,none,.bin .eql .sl,[.t 3,.c .nils]⟩])
  (.cond (.t 4)
  (.seq (.reg []
    [⟨some 2,none,.mov,[.c .nils]⟩])
  .ret)
  .skip))
  (.seq (.reg []
    [⟨some 5,none,.bslice sz ty,[]⟩,
     ⟨some 6,none,.mov,[.t 0]⟩,
     ⟨some 7,none,.append sz ty by_,[.t 5,.t 6]⟩,
     ⟨some 2,none,.mov,[.t 7]⟩])
  .ret))
theorem elems_row {h:Heap} {id sz ty m:Nat} {es:List (List PVal)} (ho:h id = some (.row sz ty es)) (hm:m = es.length):elems h (.own id sz 0 m) = some (sz,es,[id]):=by
  subst hm
  simp [elems,ho]
theorem gW {h:Heap} {id sz ty m k:Nat} {es:List (List PVal)} (ho:h id = some (.row sz ty es)) (hm:m = es.length) (hk:es.length ≤ k):elemsU h k (.own id sz 0 m) = some (sz,es,[id]):=by
  subst hm
  simp [elemsU,ho,List.take_of_length_le hk]
theorem dj {a b:List (List PVal)}:knownL (a ++ b) = (knownL a && knownL b):=by simp [knownL]
theorem eO {es vs:List (List PVal)} {i:Nat} (h1:knownL es = true) (h2:knownL vs = true):knownL (es.take i ++ vs ++ es.drop i) = true:=by
  rw [dj,dj,h2]
  simp only [knownL,List.all_eq_true,Bool.and_eq_true] at h1 ⊢
  exact ⟨⟨fun e he=>h1 e (List.mem_of_mem_take he),trivial⟩,fun e he=>h1 e (List.mem_of_mem_drop he)⟩
theorem knownL_take {es:List (List PVal)} {i:Nat} (h:knownL es = true):knownL (es.take i) = true:=by
  simp only [knownL,List.all_eq_true] at h ⊢
  exact fun e he=>h e (List.mem_of_mem_take he)
theorem eM {A X:List (List PVal)} {lo:Nat} (h:lo ≤ A.length):(overE A lo X).take (lo + X.length) = A.take lo ++ X:=by
  unfold overE
  exact List.take_left' (by simp; omega)
theorem ed {h:Heap} {id sz ty lo m k:Nat} {es es2:List (List PVal)} (ho:h id = some (.full sz ty es)) (hl:lo + m ≤ es.length) (hk:knownL (es.take (lo + min k m)) = true) (he:((es.drop lo).take m).take k = es2):elemsU h k (.own id sz lo m) = some (sz,es2,[id]):=by
  subst he
  simp only [elemsU,ho]
  rw [if_pos ⟨trivial,hl,hk⟩]
theorem dB {P:Program} {n k0 t id sz ty q next:Nat} {r:List AC} {env:List (Nat × PVal)} {heap:List (AId × AObj)} {es:List (List PVal)} (ht:env.lookup t = some (.own id sz 0 q)) (ho:heap.lookup id = some (.row sz ty es)) (hk:k0 ≤ next) :
    WK P n k0 (.ret :: r) (RetQ k0 [.t t] (.own k0 sz 0 q) [(k0,.row sz ty es)] (k0 + 1)) ⟨env,heap,next⟩:=by
  refine bz (Conv.move ho ht) ?_ (by simp)
  refine aj ?_
  have hposA : ∀ (l:List Nat) (j k:Nat),(∀ x ∈ l,x ≠ j) → posAt (l ++ [j]) j k = some (k + l.length):=by
    intro l
    induction l with
    | nil=>intro j k _; simp [posAt]
    | cons a l ih =>
      intro j k h
      have:a ≠ j:=h a (by simp)
      simp only [List.cons_append,posAt]
      rw [ih j (k + 1) (fun x hx=>h x (List.mem_cons_of_mem _ hx))]
      simp [this,List.length_cons]
      omega
  have hpos:posAt (List.range k0 ++ [next]) next 0 = some k0:=by
    rw [hposA _ _ _ (fun x hx=>by have:=List.mem_range.1 hx; omega)]
    simp
  have hsub : ∀ (l:List Nat) (k:Nat) (sl:List Nat),(∀ x ∈ l,x ≠ next) → subR [(next,AObj.row sz ty es)] sl [] (l ++ [next]) k = some [(k + l.length,.row sz ty es)]:=by
    intro l
    induction l with
    | nil=>intro k sl _; simp [subR,List.lookup,viewO]
    | cons a l ih =>
      intro k sl h
      have:(a == next) = false:=by simpa using h a (by simp)
      simp only [List.cons_append,subR,List.lookup,this]
      rw [ih (k + 1) sl (fun x hx=>h x (List.mem_cons_of_mem _ hx))]
      simp
      omega
  refine ii (.inr rfl) (qs:=[.own next sz 0 q]) (qs':=[.own k0 sz 0 q]) (sl:=List.range k0 ++ [next]) (bi:=[]) ?_ (fun i hi=>?_) (by simp) ?_ ?_ ?_ .refl (by simp)
  · simp [evalRs,evalRV,List.lookup]
  · rw [List.getElem?_append_left (by simpa using hi),List.getElem?_range hi]
  · simp only [slOk,Bool.and_eq_true,decide_eq_true_eq,List.all_eq_true]
    refine ⟨?_,fun id hid=>?_⟩
    · rw [List.nodup_append]
      refine ⟨List.nodup_range,by simp,fun a ha b hb=>?_⟩
      have:=List.mem_range.1 ha
      simp at hb
      omega
    · simp only [List.mem_append,List.mem_range,List.mem_singleton] at hid
      simp
      omega
  · have:=hsub (List.range k0) 0 (List.range k0 ++ [next]) (fun x hx=>by have:=List.mem_range.1 hx; omega)
    simpa [pickH] using this
  · simp [viewP.go,viewP,hpos]
theorem core_bslice0 {h:Heap} {nx sz ty:Nat} (hsz:0 < sz):core (.bslice sz ty) [] h nx = some { v:=.own nx sz 0 0,wh:=[(nx,some (.row sz ty []))],nw:=[nx] }:=by
  simp [core,elemsOf,hsz]
theorem core_eqlnil {h:Heap} {nx:Nat} {sz:Nat} (es:List (List PVal)):core (.bin .eql .sl) [.ro sz es,.nils] h nx = some { v:=if 0 < es.length then .bool false else .anyb }:=by
  rfl
section
variable {P:Program} {f:FuncId} {sz ty by_:Nat} {zs:List PVal} {fo fr:FuncId}
theorem insert_ok (qv:P.follows .mixedOrders = true) (hi:fnInfo P f = some (95,[.t 6],insAC sz ty by_ zs fo fr)) (hov:OvlFn P fo sz) (es vs:List (List PVal)) (i:Nat) (hin:i ≤ es.length) (hm:0 < vs.length)
    (hb:(es.length + vs.length) * by_ ≤ 140737488355328) (hmx:es.length + vs.length < 2 ^ 62) (hes:knownL es = true) (hvs:knownL vs = true) :
    FnOk P f [.own 0 sz 0 es.length,.int .i64 i,.own 1 sz 0 vs.length] [(0,.row sz ty es),(1,.row sz ty vs)] 2 (.own 2 sz 0 (es.length + vs.length)) [(2,.row sz ty (es.take i ++ vs ++ es.drop i))] 3:=by
  refine FnOk.wk hi rfl rfl ?_
  unfold insAC
  simp only [paramE,Nat.reduceAdd]
  refine ak (WK.full (id:=0) rfl (fun k=>rfl) fun k=>?_)
  generalize hF:es ++ List.replicate k (List.replicate sz PVal.undef) = F
  have hFl:F.length = es.length + k:=by rw [← hF]; simp
  have hFt:F.take es.length = es:=by rw [← hF]; exact List.take_left
  refine az qv ?_
  repeat (first | refine af rfl ?_ | refine ar rfl rfl rfl rfl rfl ?_)
  refine aa ?_
  refine ak (az qv ?_)
  repeat (first | refine af rfl ?_ | refine ar rfl rfl rfl rfl rfl ?_)
  refine ar rfl rfl rfl (bt rfl (Int.natCast_nonneg _) (by omega) (by omega) rfl rfl) rfl ?_
  refine aa ?_
  refine ak (az qv ?_)
  repeat (first | refine af rfl ?_ | refine ar rfl rfl rfl rfl rfl ?_)
  refine aa ?_
  refine ak (ak (az qv ?_))
  repeat (first | refine af rfl ?_ | refine ar rfl rfl rfl rfl rfl ?_)
  refine aa ?_
  have hd:decide ((vs.length:Int) = 0) = false:=decide_eq_false fun h=>by omega
  simp only [hd]
  refine aq rfl ?_
  refine aA ?_
  refine ak (az qv ?_)
  repeat (first | refine af rfl ?_ | refine ar rfl rfl rfl rfl rfl ?_)
  refine aa ?_
  refine ak (ak (az qv ?_))
  repeat (first | refine af rfl ?_ | refine ar rfl rfl rfl rfl rfl ?_)
  refine aa ?_
  by_cases hin':i = es.length
  · subst hin'
    have hd:decide ((es.length:Int) = (es.length:Int)) = true:=decide_eq_true rfl
    simp only [hd]
    refine ap rfl ?_
    refine ak (az qv ?_)
    refine ar rfl rfl rfl rfl rfl (ar rfl rfl rfl rfl rfl ?_)
    by_cases hroom:es.length + vs.length ≤ F.length
    · refine aw rfl rfl rfl (gg rfl (.inl (elems_row rfl rfl)) (by omega) hroom rfl rfl) rfl rfl rfl ?_
      repeat (first | refine af rfl ?_ | refine ar rfl rfl rfl rfl rfl ?_)
      refine aa ?_
      refine bz (di (id:=2) (es':=es.take es.length ++ vs ++ es.drop es.length) (es.length + vs.length) rfl ?_ (eO hes hvs) rfl) (dB (id:=2) rfl rfl (by decide)) (by simp)
      simp only [overE,hFt,List.take_length,List.drop_length,List.append_nil]
      exact List.take_left' (by simp)
    · refine aw rfl rfl rfl (core_appFgrow (es':=es.take es.length ++ vs ++ es.drop es.length) rfl (elems_row rfl rfl) (by omega) hm (by omega) hb (by simp only [maxLen]; omega) (by rw [hFt]; exact hes) (by rw [hFt]; simp) rfl) rfl rfl rfl ?_
      repeat (first | refine af rfl ?_ | refine ar rfl rfl rfl rfl rfl ?_)
      refine aa ?_
      exact dB (id:=2) rfl rfl (by decide)
  have hd:decide ((i:Int) = (es.length:Int)) = false:=decide_eq_false fun h=>hin' (Int.ofNat.inj h)
  simp only [hd]
  refine aq rfl ?_
  refine aA ?_
  refine ak (ak (az qv ?_))
  repeat (first | refine af rfl ?_ | refine ar rfl rfl rfl rfl rfl ?_)
  refine aa ?_
  have hw:IntKind.i64.wrap ((es.length:Int) + (vs.length:Int)) = ((es.length + vs.length:Nat):Int):=by rw [aW] <;> omega
  simp only [hw]
  by_cases hroom:F.length < es.length + vs.length
  · have hd:decide (((F.length - 0:Nat):Int) < ((es.length + vs.length:Nat):Int)) = true:=decide_eq_true (by omega)
    simp only [hd]
    refine ap rfl ?_
    refine ak (az qv ?_)
    repeat (first | refine af rfl ?_ | refine ar rfl rfl rfl rfl rfl ?_)
    refine ar rfl rfl rfl (dl rfl (Int.natCast_nonneg _) (by omega) (by omega) rfl) rfl ?_
    repeat (first | refine af rfl ?_ | refine ar rfl rfl rfl rfl rfl ?_)
    have hw2:IntKind.i64.wrap (((es.length + vs.length:Nat):Int) - (i:Int)) = ((es.length + vs.length - i:Nat):Int):=by rw [aW] <;> omega
    simp only [hw,hw2,Int.toNat_natCast]
    have hFi:F.take i = es.take i:=by rw [← hF,List.take_append_of_le_length hin]
    refine aw rfl rfl rfl (core_appZF (es':=es.take i ++ List.replicate (es.length + vs.length - i) zs) (u:=es.length + vs.length) rfl (by omega) (by omega) (by simp; omega) (by simp; rw [show i + (es.length + vs.length - i) = es.length + vs.length by omega]; exact hb) (by simp [maxLen]; omega) (by rw [hFi]; exact knownL_take hes) (by simp [hFi]) (by simp; omega)) rfl rfl rfl ?_
    repeat (first | refine af rfl ?_ | refine ar rfl rfl rfl rfl rfl ?_)
    refine aa ?_
    refine WK.full (id:=2) rfl (fun k=>rfl) fun k2=>?_
    generalize hG:es.take i ++ List.replicate (es.length + vs.length - i) zs ++ List.replicate k2 (List.replicate sz PVal.undef) = G
    have hGl:G.length = es.length + vs.length + k2:=by rw [← hG]; simp; omega
    have hGi:G.take i = es.take i:=by rw [← hG,List.append_assoc]; exact List.take_left' (by simp; omega)
    refine ak (az qv ?_)
    repeat (first | refine af rfl ?_ | refine ar rfl rfl rfl rfl rfl ?_)
    refine ar rfl rfl rfl (bt (u:=i) (v:=es.length + vs.length - i) rfl (Int.natCast_nonneg _) (by omega) (by omega) (by simp) (by simp)) rfl ?_
    repeat (first | refine af rfl ?_ | refine ar rfl rfl rfl rfl rfl ?_)
    refine aw rfl rfl rfl (dN rfl (gW rfl rfl (by omega)) (by omega) (by omega) rfl) rfl rfl rfl ?_
    refine aa ?_
    have hw3:IntKind.i64.wrap ((i:Int) + (vs.length:Int)) = ((i + vs.length:Nat):Int):=by rw [aW] <;> omega
    refine ak (aE qv ?_)
    repeat (first | refine aG rfl ?_ | refine aF rfl rfl rfl rfl rfl ?_)
    simp only [hw3]
    refine aF rfl rfl rfl (bt (u:=i + vs.length) (v:=es.length - i) rfl (Int.natCast_nonneg _) (by omega) (by rw [bJ (by omega)]; omega) (by omega) (by omega)) rfl ?_
    repeat (first | refine aG rfl ?_ | refine aF rfl rfl rfl rfl rfl ?_)
    refine aF rfl rfl rfl (bt (u:=i) (v:=es.length - i) rfl (Int.natCast_nonneg _) (by omega) (by omega) (by simp) (by simp)) rfl ?_
    refine bj rfl rfl rfl (dN rfl (ed (es2:=es.drop i) rfl (by omega) ?_ ?_) (by rw [bJ (by omega)]; omega) (by omega) rfl) rfl rfl rfl ?_
    · rw [show i + min (es.length - i) (es.length - i) = es.length by omega,hFt]; exact hes
    · rw [← hF,List.drop_append_of_le_length hin,List.take_take,List.take_left' (by simp)]
    refine aH rfl ?_
    refine ak (az qv ?_)
    repeat (first | refine af rfl ?_ | refine ar rfl rfl rfl rfl rfl ?_)
    refine aa ?_
    refine bz (di (id:=2) (es':=es.take i ++ vs ++ es.drop i) (es.length + vs.length) rfl ?_ (eO hes hvs) rfl) (dB (id:=2) rfl rfl (by decide)) (by simp)
    rw [show es.length + vs.length = (i + vs.length) + (es.drop i).length by simp; omega,eM (by rw [bJ (by omega)]; omega),eM (by omega),hGi]
  have hd:decide (((F.length - 0:Nat):Int) < ((es.length + vs.length:Nat):Int)) = false:=decide_eq_false (by omega)
  simp only [hd]
  refine aq rfl ?_
  refine aA ?_
  have hw3:IntKind.i64.wrap ((i:Int) + (vs.length:Int)) = ((i + vs.length:Nat):Int):=by rw [aW] <;> omega
  refine ak (az qv ?_)
  repeat (first | refine af rfl ?_ | refine ar rfl rfl rfl rfl rfl ?_)
  simp only [hw]
  refine ar rfl rfl rfl (dl (u:=es.length + vs.length) rfl (Int.natCast_nonneg _) (by omega) (by omega) (by omega)) rfl ?_
  repeat (first | refine af rfl ?_ | refine ar rfl rfl rfl rfl rfl ?_)
  refine aa ?_
  refine ak (ak (az qv ?_))
  repeat (first | refine af rfl ?_ | refine ar rfl rfl rfl rfl rfl ?_)
  simp only [hw3]
  refine ar rfl rfl rfl (bt (u:=i + vs.length) (v:=es.length - i) rfl (Int.natCast_nonneg _) (by omega) (by omega) (by omega) (by omega)) rfl ?_
  refine ⟨GO.ovl rfl rfl hov rfl rfl rfl (.inl rfl) (.inr rfl) hm (by omega) (by decide) (GX.run ?_)⟩
  repeat (first | refine af rfl ?_ | refine ar rfl rfl rfl rfl rfl ?_)
  refine aa ?_
  refine ap rfl ?_
  refine ak (aE qv ?_)
  repeat (first | refine aG rfl ?_ | refine aF rfl rfl rfl rfl rfl ?_)
  simp only [hw3]
  refine aF rfl rfl rfl (bt (u:=i + vs.length) (v:=es.length - i) rfl (Int.natCast_nonneg _) (by omega) (by omega) (by omega) (by omega)) rfl ?_
  repeat (first | refine aG rfl ?_ | refine aF rfl rfl rfl rfl rfl ?_)
  refine aF rfl rfl rfl (bt (u:=i) (v:=es.length + vs.length - i) rfl (Int.natCast_nonneg _) (by omega) (by omega) (by omega) (by omega)) rfl ?_
  refine bj rfl rfl rfl (dN rfl (ed (es2:=es.drop i) rfl (by omega) ?_ ?_) (by omega) (by omega) rfl) rfl rfl rfl ?_
  · rw [show i + min (es.length - i) (es.length + vs.length - i) = es.length by omega,hFt]; exact hes
  · rw [← hF,List.drop_append_of_le_length hin,List.take_take,show min (es.length - i) (es.length + vs.length - i) = (es.drop i).length by simp; omega]
    exact List.take_left
  refine aH rfl ?_
  have hDl:(es.drop i).length = es.length - i:=by simp
  have hl1:(overE F (i + vs.length) (es.drop i)).length = F.length:=bJ (by omega)
  refine ak (az qv ?_)
  repeat (first | refine af rfl ?_ | refine ar rfl rfl rfl rfl rfl ?_)
  refine ar rfl rfl rfl (bt (u:=i) (v:=es.length + vs.length - i) rfl (Int.natCast_nonneg _) (by omega) (by omega) (by omega) (by omega)) rfl ?_
  repeat (first | refine af rfl ?_ | refine ar rfl rfl rfl rfl rfl ?_)
  refine aw rfl rfl rfl (dN rfl (gW rfl rfl (by omega)) (by omega) (by omega) rfl) rfl rfl rfl ?_
  refine aa ?_
  refine ak (az qv ?_)
  repeat (first | refine af rfl ?_ | refine ar rfl rfl rfl rfl rfl ?_)
  refine aa ?_
  have hFi:F.take i = es.take i:=by rw [← hF,List.take_append_of_le_length hin]
  refine bz (di (id:=0) (es':=es.take i ++ vs ++ es.drop i) (es.length + vs.length) rfl ?_ (eO hes hvs) rfl) (dB (id:=0) rfl rfl (by decide)) (by simp)
  have e1:(overE F (i + vs.length) (es.drop i)).take i = es.take i:=by
    unfold overE
    rw [List.append_assoc,List.take_append_of_le_length (by simp; omega),List.take_take,show min i (i + vs.length) = i by omega,hFi]
  have e2:(overE F (i + vs.length) (es.drop i)).drop (i + vs.length) = es.drop i ++ F.drop (i + vs.length + (es.drop i).length):=by
    unfold overE
    rw [List.append_assoc,List.drop_left' (by simp; omega)]
  unfold overE at *
  rw [e1,e2,← List.append_assoc]
  exact List.take_left' (by simp; omega)
theorem ret_full {P:Program} {n k0 t id sz ty q next:Nat} {r:List AC} {env:List (Nat × PVal)} {heap:List (AId × AObj)} {F es:List (List PVal)} (ht:env.lookup t = some (.own id sz 0 q)) (ho:heap.lookup id = some (.full sz ty F)) (he:F.take q = es) (hk:knownL es = true) (hk0:k0 ≤ next) :
    WK P n k0 (.ret :: r) (RetQ k0 [.t t] (.own k0 sz 0 q) [(k0,.row sz ty es)] (k0 + 1)) ⟨env,heap,next⟩ :=
  bz (di q ho he hk rfl) (dB ht (by rw [cm,if_pos rfl]) hk0) (by simp)
theorem delete_ok (qv:P.follows .mixedOrders = true) (hi:fnInfo P f = some (33,[.t 6],delAC sz ty by_ zs)) (es:List (List PVal)) (i j:Nat) (hij:i ≤ j) (hjn:j ≤ es.length) (hmx:es.length < 2 ^ 62) (hes:knownL es = true) :
    FnOk P f [.own 0 sz 0 es.length,.int .i64 i,.int .i64 j] [(0,.row sz ty es)] 1 (.own 1 sz 0 (es.length - (j - i))) [(1,.row sz ty (es.take i ++ es.drop j))] 2:=by
  refine FnOk.wk hi rfl rfl ?_
  unfold delAC
  simp only [paramE,Nat.reduceAdd]
  refine ak (WK.full (id:=0) rfl (fun k=>rfl) fun k=>?_)
  generalize hF:es ++ List.replicate k (List.replicate sz PVal.undef) = F
  have hFl:F.length = es.length + k:=by rw [← hF]; simp
  have hFt:F.take es.length = es:=by rw [← hF]; exact List.take_left
  have hFi:F.take i = es.take i:=by rw [← hF,List.take_append_of_le_length (by omega)]
  have hkn:knownL (es.take i ++ es.drop j) = true:=by
    rw [dj]
    simp only [knownL,List.all_eq_true,Bool.and_eq_true] at hes ⊢
    exact ⟨fun e he=>hes e (List.mem_of_mem_take he),fun e he=>hes e (List.mem_of_mem_drop he)⟩
  refine az qv ?_
  repeat (first | refine af rfl ?_ | refine ar rfl rfl rfl rfl rfl ?_)
  refine aa ?_
  refine ak (az qv ?_)
  repeat (first | refine af rfl ?_ | refine ar rfl rfl rfl rfl rfl ?_)
  refine ar rfl rfl rfl (core_slice3F rfl (Int.natCast_nonneg _) (by omega) (by omega) (by omega)) rfl ?_
  refine aa ?_
  refine ak (ak (az qv ?_))
  repeat (first | refine af rfl ?_ | refine ar rfl rfl rfl rfl rfl ?_)
  refine aa ?_
  by_cases hij':i = j
  · subst hij'
    have hd:decide ((i:Int) = (i:Int)) = true:=decide_eq_true rfl
    simp only [hd]
    refine ap rfl ?_
    refine ak (az qv ?_)
    repeat (first | refine af rfl ?_ | refine ar rfl rfl rfl rfl rfl ?_)
    refine aa ?_
    rw [Nat.sub_self,Nat.sub_zero]
    refine ret_full (id:=0) rfl rfl ?_ hkn (by decide)
    rw [hFt,List.take_append_drop]
  have hd:decide ((i:Int) = (j:Int)) = false:=decide_eq_false fun h=>hij' (Int.ofNat.inj h)
  simp only [hd]
  refine aq rfl ?_
  refine aA ?_
  refine ak (az qv ?_)
  repeat (first | refine af rfl ?_ | refine ar rfl rfl rfl rfl rfl ?_)
  refine aa ?_
  refine ak (aE qv ?_)
  repeat (first | refine aG rfl ?_ | refine aF rfl rfl rfl rfl rfl ?_)
  refine aF rfl rfl rfl (dl (u:=i) rfl (Int.natCast_nonneg _) (by omega) (by omega) (by omega)) rfl ?_
  repeat (first | refine aG rfl ?_ | refine aF rfl rfl rfl rfl rfl ?_)
  refine aF rfl rfl rfl (bt (u:=j) (v:=es.length - j) rfl (Int.natCast_nonneg _) (by omega) (by omega) (by omega) (by omega)) rfl ?_
  have hDl:(es.drop j).length = es.length - j:=by simp
  refine bj rfl rfl rfl (gg (u:=es.length - (j - i)) rfl (.inr ⟨rfl,ed (es2:=es.drop j) rfl (by omega) ?_ ?_⟩) (by omega) (by omega) rfl (by omega)) rfl rfl rfl ?_
  · simp only [lenP]
    rw [show j + min (es.length - j) (es.length - j) = es.length by omega,hFt]; exact hes
  · simp only [lenP]
    rw [← hF,List.drop_append_of_le_length hjn,List.take_take,List.take_left' (by simp)]
  repeat (first | refine aG rfl ?_ | refine aF rfl rfl rfl rfl rfl ?_)
  refine aH rfl ?_
  have hl1:(overE F i (es.drop j)).length = F.length:=bJ (by omega)
  refine ak (az qv ?_)
  repeat (first | refine af rfl ?_ | refine ar rfl rfl rfl rfl rfl ?_)
  refine ar rfl rfl rfl (gn (u:=es.length - (j - i)) (v:=j - i) rfl (Int.natCast_nonneg _) (by omega) (by omega) (by omega) (by omega) (by omega)) rfl ?_
  refine ay rfl rfl (core_clearF rfl (by omega) (by omega) rfl) rfl rfl ?_
  refine aa ?_
  refine ak (az qv ?_)
  repeat (first | refine af rfl ?_ | refine ar rfl rfl rfl rfl rfl ?_)
  refine aa ?_
  refine ret_full (id:=1) rfl rfl ?_ hkn (by decide)
  have e1:=eM (A:=F) (X:=es.drop j) (lo:=i) (by omega)
  rw [hDl,hFi,show i + (es.length - j) = es.length - (j - i) by omega] at e1
  rw [← e1]
  unfold overE
  rw [List.append_assoc,List.take_append_of_le_length (by simp; omega),List.take_take,Nat.min_self]
theorem clone_gen (qv:P.follows .mixedOrders = true) (hi:fnInfo P f = some (8,[.t 2],cloneAC sz ty by_)) (es:List (List PVal)) (hsz:0 < sz) (hb:es.length * by_ ≤ 140737488355328) (hmx:es.length ≤ 9223372036854775807) (r:PVal) (h1:List (AId × AObj)) (k1:Nat)
    (E1:es = [] → ∀ rest,WK P 8 0 (.ret :: rest) (RetQ 0 [.t 2] r h1 k1) ⟨[(2,.nils),(4,if 0 < es.length then .bool false else .anyb),(3,.ro sz es),(2,.nils),(0,.ro sz es)],[],0⟩)
    (E2:WK P 8 0 [.ret] (RetQ 0 [.t 2] r h1 k1) ⟨[(2,.own 1 sz 0 es.length),(7,.own 1 sz 0 es.length),(6,.ro sz es),(5,.own 0 sz 0 0),(4,if 0 < es.length then .bool false else .anyb),(3,.ro sz es),(2,.nils),(0,.ro sz es)],[(1,.row sz ty es)],2⟩) :
    FnOk P f [.ro sz es] [] 0 r h1 k1:=by
  have key : ∀ (Q:Exit → St → Prop),WK P 8 0 [.ret] Q ⟨[(2,.own 1 sz 0 es.length),(7,.own 1 sz 0 es.length),(6,.ro sz es),(5,.own 0 sz 0 0),(4,if 0 < es.length then .bool false else .anyb),(3,.ro sz es),(2,.nils),(0,.ro sz es)],[(1,.row sz ty es)],2⟩ →
      WK P 8 0 [.seq (.reg [] [⟨some 5,none,.bslice sz ty,[]⟩,⟨some 6,none,.mov,[.t 0]⟩,⟨some 7,none,.append sz ty by_,[.t 5,.t 6]⟩,⟨some 2,none,.mov,[.t 7]⟩]) .ret] Q
        ⟨[(4,if 0 < es.length then .bool false else .anyb),(3,.ro sz es),(2,.nils),(0,.ro sz es)],[],0⟩:=by
    intro Q hQ
    refine ak (az qv ?_)
    refine aw rfl rfl rfl (core_bslice0 hsz) rfl rfl rfl ?_
    refine ar rfl rfl rfl rfl rfl ?_
    refine ⟨GO.app (es:=[]) (rh2:=[]) (zj:=[(1,.row sz ty es)]) rfl rfl rfl rfl rfl rfl (by simpa using hb) (by simpa [maxLen] using hmx) rfl rfl rfl (GX.run ?_)⟩
    refine ar rfl rfl rfl rfl rfl ?_
    refine aa ?_
    simpa using hQ
  refine FnOk.wk hi rfl rfl ?_
  unfold cloneAC
  simp only [paramE,Nat.reduceAdd]
  refine ak (az qv ?_)
  refine ar rfl rfl rfl rfl rfl ?_
  refine aa ?_
  refine ak (ak (az qv ?_))
  refine ar rfl rfl rfl rfl rfl (ar (v':=if 0 < es.length then .bool false else .anyb) rfl rfl rfl (core_eqlnil es) rfl ?_)
  refine aa ?_
  rcases Nat.eq_zero_or_pos es.length with h0 | h0
  · obtain rfl:es = []:=List.length_eq_zero_iff.1 h0
    refine WK.condU rfl ?_ ?_
    · refine ak (az qv ?_)
      refine ar rfl rfl rfl rfl rfl ?_
      refine aa ?_
      exact E1 rfl _
    · exact aA (key _ E2)
  · refine aq (by simp only [if_pos h0]; rfl) ?_
    exact aA (key _ E2)
theorem clone_ok (qv:P.follows .mixedOrders = true) (hi:fnInfo P f = some (8,[.t 2],cloneAC sz ty by_)) (es:List (List PVal)) (hsz:0 < sz) (hb:es.length * by_ ≤ 140737488355328) (hmx:es.length ≤ 9223372036854775807) :
    FnOk P f [.ro sz es] [] 0 (.own 0 sz 0 es.length) [(0,.row sz ty es)] 1:=by
  refine clone_gen qv hi es hsz hb hmx _ _ _ (fun h rest=>?_) (dB (id:=1) rfl rfl (by decide))
  subst h
  refine WK.adopt (t:=2) (sz:=sz) (ty:=ty) rfl hsz (by simp) rfl ?_
  exact dB (id:=0) rfl rfl (by decide)
theorem cS {α:Type} {c:α → List PVal} (qv:P.follows .mixedOrders = true) (hi:fnInfo P f = some (8,[.t 2],cloneAC sz ty by_)) (L:List α) (hsz:0 < sz) (hb:L.length * by_ ≤ 140737488355328) (hmx:L.length ≤ 9223372036854775807) :
    FnOk P f [.ro sz (L.map c)] [] 0 (.own 0 sz 0 L.length) [(0,.row sz ty (L.map c))] 1:=by
  have:=clone_ok qv hi (L.map c) hsz (by simpa using hb) (by simpa using hmx)
  rwa [List.length_map] at this
theorem eQ {α:Type} {c:α → List PVal} (hc : ∀ x,(c x).all (fun p=>!p.isU) = true) (qv:P.follows .mixedOrders = true) (hi:fnInfo P f = some (95,[.t 6],insAC sz ty by_ zs fo fr)) (hov:OvlFn P fo sz) (L V:List α) (i:Int) {m m2:Nat} (e1:m = L.length) (e2:m2 = V.length) (h0:0 ≤ i) (h1:i ≤ L.length) (hm:0 < V.length)
    (hb:(L.length + V.length) * by_ ≤ 140737488355328) (hmx:L.length + V.length < 2 ^ 62) :
    FnOk P f [.own 0 sz 0 m,.int .i64 i,.own 1 sz 0 m2] [(0,.row sz ty (L.map c)),(1,.row sz ty (V.map c))] 2 (.own 2 sz 0 (db L i V).length) [(2,.row sz ty ((db L i V).map c))] 3:=by
  subst e1 e2
  obtain ⟨j,rfl⟩:=Int.eq_ofNat_of_zero_le h0
  have:=insert_ok qv hi hov (L.map c) (V.map c) j (by simp; omega) (by simpa using hm) (by simpa using hb) (by simpa using hmx) (eN hc L) (eN hc V)
  simp only [List.length_map] at this
  rw [show (db L (j:Int) V).length = L.length + V.length by simp [db]; omega,show (db L (j:Int) V).map c = (L.map c).take j ++ V.map c ++ (L.map c).drop j by simp [db,List.map_take,List.map_drop]]
  exact this
theorem dM {α:Type} {c:α → List PVal} (hc : ∀ x,(c x).all (fun p=>!p.isU) = true) (qv:P.follows .mixedOrders = true) (hi:fnInfo P f = some (33,[.t 6],delAC sz ty by_ zs)) (L:List α) (i j:Int) {m:Nat} (e1:m = L.length) (h0:0 ≤ i) (hij:i ≤ j) (hj:j ≤ L.length) (hmx:L.length < 2 ^ 62) :
    FnOk P f [.own 0 sz 0 m,.int .i64 i,.int .i64 j] [(0,.row sz ty (L.map c))] 1 (.own 1 sz 0 (bY L i j).length) [(1,.row sz ty ((bY L i j).map c))] 2:=by
  subst e1
  obtain ⟨a,rfl⟩:=Int.eq_ofNat_of_zero_le h0
  obtain ⟨b,rfl⟩:=Int.eq_ofNat_of_zero_le (Int.le_trans h0 hij)
  have:=delete_ok qv hi (L.map c) a b (by omega) (by simp; omega) (by simpa using hmx) (eN hc L)
  simp only [List.length_map] at this
  rw [show (bY L (a:Int) (b:Int)).length = L.length - (b - a) by simp [bY]; omega,show (bY L (a:Int) (b:Int)).map c = (L.map c).take a ++ (L.map c).drop b by simp [bY,List.map_take,List.map_drop]]
  exact this
end
section
variable {P:Program} {n k0:Nat} {K:St → Prop} {l:List AO} {env env':List (Nat × PVal)} {heap zj:List (AId × AObj)} {next zk d:Nat} {xs:List AX} {ps ps0 qs first caps:List PVal} {dr:List (List Nat)} {racc:List Eff} {g:Option (Nat × Bool)} {f:FuncId} {r r':PVal} {h0 h1:List (AId × AObj)} {k1:Nat}
theorem bm (sl bi ts:List Nat) (hk:(decide (sl.take k0 = List.range k0) && Nat.ble k0 sl.length) = true) (hs:slOk sl bi next = true)
  (he:viewE sl (pickH heap bi) env ts = some env') (hh:subR heap sl (pickH heap bi) sl 0 = some zj) (hn:sl.length = zk):Conv k0 ⟨env,heap,next⟩ ⟨env',zj,zk⟩:=by
 subst hn
 simp only [Bool.and_eq_true,decide_eq_true_eq] at hk
 refine il (fun i hi=>?_) (Nat.le_of_ble_eq_true hk.2) hs hh (fB he)
 have h1:(sl.take k0)[i]? = sl[i]?:=by rw [List.getElem?_take]; simp [hi]
 rw [← h1,hk.1]
 simp [hi]
end
theorem subR_nil {heap:List (AId × AObj)} {sl:List Nat} {bs:List (AId × AObj)} {k:Nat}:subR heap sl bs [] k = some []:=rfl
theorem bO {heap l:List (AId × AObj)} {sl:List Nat} {bs:List (AId × AObj)} {id k:Nat} {r:List Nat} {o o':AObj} (ho:heap.lookup id = some o) (hv:viewO sl bs o = some o') (hr:subR heap sl bs r (k + 1) = some l):subR heap sl bs (id :: r) k = some ((k,o') :: l):=by
 simp only [subR,ho,hv,hr]
theorem fC {heap l:List (AId × AObj)} {sl:List Nat} {bs:List (AId × AObj)} {id k:Nat} {r:List Nat} (ho:heap.lookup id = none) (hr:subR heap sl bs r (k + 1) = some l):subR heap sl bs (id :: r) k = some l:=by
 simp only [subR,ho,hr]
theorem RetQ.ret {k0 k1:Nat} {ts:List RV} {r:PVal} {h1:List (AId × AObj)} {e:Exit} {env:List (Nat × PVal)} {heap:List (AId × AObj)} {next:Nat} {qs qs':List PVal} (sl bi:List Nat) (he:e = .normal ∨ e = .ret) (hq:evalRs env heap ts = some qs)
  (hk:(decide (sl.take k0 = List.range k0) && Nat.ble k0 sl.length) = true) (hs:slOk sl bi next = true) (hh:subR heap sl (pickH heap bi) sl 0 = some h1) (hv:viewP.go sl (pickH heap bi) qs = some qs') (hr:WeakP (retV qs') r) (hl:sl.length = k1):RetQ k0 ts r h1 k1 e ⟨env,heap,next⟩:=by
 simp only [Bool.and_eq_true,decide_eq_true_eq] at hk
 refine ii he hq (fun i hi=>?_) (Nat.le_of_ble_eq_true hk.2) hs hh hv hr hl
 have h1:(sl.take k0)[i]? = sl[i]?:=by rw [List.getElem?_take]; simp [hi]
 rw [← h1,hk.1]
 simp [hi]
theorem Conv.mvB {k0 id j r sz n next:Nat} {ty:TypeId} {cs:List PVal} {es:List (List PVal)} {env:List (Nat × PVal)} {heap:List (AId × AObj)} (ho:heap.lookup id = some (.box cs)) (hj:cs[j]? = some (.own r sz 0 n)) (hr:heap.lookup r = some (.row sz ty es)) :
  Conv k0 ⟨env,heap,next⟩ ⟨env,setH id (.box (cs.set j (.own next sz 0 n))) (delH r heap) ++ [(next,.row sz ty es)],next + 1⟩:=by
 intro nn ds m ok a w hkn hS
 obtain ⟨B,hB,hob⟩:=hS.hp.obj r _ hr
 obtain ⟨Bb,hBb,hbox⟩:=hS.hp.obj id _ ho
 have hne:id ≠ r:=fun e=>by
  subst e
  rw [ho] at hr
  cases hr
 have hrn:r < next:=hS.hp.dom r B hB
 have hin:id < next:=hS.hp.dom id Bb hBb
 have hD:(fun i:AId=>i < next ∨ i = next) = (· < next + 1):=by
  funext i
  show (i < next ∨ i = next) = (i < next + 1)
  exact propext ⟨fun h=>h.elim Nat.lt_succ_of_lt fun e=>e ▸ Nat.lt_succ_self _,fun h=>Nat.lt_or_eq_of_le (Nat.le_of_lt_succ h)⟩
 obtain ⟨g1,g2,g3⟩:=hS.hp.reloc (w':=w) (some r) next B (.row sz ty es) rfl rfl rfl (Nat.le_refl _) (fun b hb hn=>rfl) (.inr (Nat.lt_irrefl _))
  (fun b' t' e=>by subst e; exact ⟨hS.hp.lt _ _ _ hB,.inr ⟨r,t',rfl,hB⟩⟩)
  (fun hst=>by
   have hrs : ∀ p v,Rep w (okn ok m) (· < next) m true p v → Rep w (okn ok (fun i=>if i = next then some B else if some r = some i then none else m i)) (fun i=>i < next ∨ i = next) (fun i=>if i = next then some B else if some r = some i then none else m i) true p v:=fun p v hrp=>hrp.step hst (fun _=>.inl) (by
    intro j hd
    by_cases e1:j = next
    ·subst e1; exact absurd hd (Nat.lt_irrefl _)
    ·by_cases e2:some r = some j
     ·right; simp [e1,e2]
     ·left; simp [e1,e2])
   cases B with
   | nil=>exact hob
   | «at» b tot =>
    obtain ⟨vs,h1,h2,h3,h4,h5,h6,h7⟩:=hob
    exact ⟨vs,h1,h2,h3,h4,h5,h6,fun i j e p he hp=>by
     obtain ⟨v,k1,k2,k3⟩:=h7 i j e p he hp
     exact ⟨v,k1,k2,hrs p v k3⟩⟩)
 rw [hD] at g1
 have hDD : ∀ i,i < next → i < next + 1:=fun i h=>Nat.lt_succ_of_lt h
 refine ⟨_,⟨⟨fun i o hi=>?_,g1.dom,g1.inj,g1.lt,g1.okm,g1.fresh,g1.glob⟩,fun t' p hp=>?_,hS.df,hS.sz⟩,g2,fun i hi=>g3 i (Nat.lt_of_lt_of_le hi hkn),by show k0 ≤ next + 1; exact Nat.le_succ_of_le hkn⟩
 ·rcases cH (show (setH id (.box (cs.set j (.own next sz 0 n))) (delH r heap) ++ [(next,AObj.row sz ty es)]).lookup i = some o from hi) with h1 | ⟨_,h1,h2⟩
  ·rw [cm] at h1
   split at h1
   ·rename_i e
    subst e
    injection h1 with h1
    subst h1
    refine ⟨Bb,by simp only [Nat.ne_of_lt hin,if_false]; rw [if_neg (by simpa using fun e=>hne e.symm)]; exact hBb,?_⟩
    cases Bb with
    | nil=>exact hbox.elim
    | «at» b t =>
     obtain ⟨vs,ty',c1,c2,c3⟩:=hbox
     refine ⟨vs,ty',c1,by simpa using c2,fun q p hq=>?_⟩
     by_cases hqj:q = j
     ·subst hqj
      have hlt':q < cs.length:=(List.getElem?_eq_some_iff.1 hj).1
      have:p = .own next sz 0 n:=by simpa [List.getElem?_set,hlt'] using hq.symm
      subst this
      obtain ⟨v,b1,b2,b3⟩:=c3 q _ hj
      refine ⟨v,b1,b2,?_⟩
      cases b3 with
      | own hd h1 h =>
       refine .own (Nat.lt_succ_self _) h1 fun B' hB'=>?_
       simp only [if_true,Option.some.injEq] at hB'
       subst hB'
       exact h B hB
     ·have hq':cs[q]? = some p:=by
       rw [List.getElem?_set] at hq
       simpa [show ¬ j = q from fun e=>hqj e.symm] using hq
      obtain ⟨v,b1,b2,b3⟩:=c3 q p hq'
      exact ⟨v,b1,b2,b3.step g2 hDD g3⟩
   ·rw [cI] at h1
    split at h1
    ·cases h1
    ·rename_i e1 e2
     obtain ⟨B',hB',_⟩:=hS.hp.obj i o h1
     have:i < next:=hS.hp.dom i B' hB'
     exact g1.obj i o (by simp only [Nat.ne_of_lt this,if_false]; rw [if_neg (by simpa using fun e=>e2 e.symm)]; exact h1)
  ·subst h1 h2
   exact g1.obj _ _ (by simp)
 ·obtain ⟨v,hv,hrep⟩:=hS.tmp t' p hp
  exact ⟨v,hv,hrep.step g2 hDD g3⟩
theorem fU {P:Program} {nn k0 id j r sz n next:Nat} {ty:TypeId} {cs:List PVal} {es:List (List PVal)} {env:List (Nat × PVal)} {heap zj:List (AId × AObj)} {Q:Exit → St → Prop} {rr:List AC} (ho:heap.lookup id = some (.box cs)) (hj:cs[j]? = some (.own r sz 0 n)) (hr:heap.lookup r = some (.row sz ty es)) (hrr:rr ≠ [])
  (hh:setH id (.box (cs.set j (.own next sz 0 n))) (delH r heap) ++ [(next,.row sz ty es)] = zj) (k:WK P nn k0 rr Q ⟨env,zj,next + 1⟩):WK P nn k0 rr Q ⟨env,heap,next⟩:=by
 subst hh
 exact bz (Conv.mvB ho hj hr) k hrr
theorem Conv.mvT {k0 t r sz n next:Nat} {ty:TypeId} {es:List (List PVal)} {env:List (Nat × PVal)} {heap:List (AId × AObj)} (ht:env.lookup t = some (.own r sz 0 n)) (hr:heap.lookup r = some (.row sz ty es)) :
  Conv k0 ⟨env,heap,next⟩ ⟨(t,.own next sz 0 n) :: env,delH r heap ++ [(next,.row sz ty es)],next + 1⟩:=by
 intro nn ds m ok a w hkn hS
 obtain ⟨B,hB,hob⟩:=hS.hp.obj r _ hr
 have hD:(fun i:AId=>i < next ∨ i = next) = (· < next + 1):=by
  funext i
  show (i < next ∨ i = next) = (i < next + 1)
  exact propext ⟨fun h=>h.elim Nat.lt_succ_of_lt fun e=>e ▸ Nat.lt_succ_self _,fun h=>Nat.lt_or_eq_of_le (Nat.le_of_lt_succ h)⟩
 obtain ⟨g1,g2,g3⟩:=hS.hp.reloc (w':=w) (some r) next B (.row sz ty es) rfl rfl rfl (Nat.le_refl _) (fun b hb hn=>rfl) (.inr (Nat.lt_irrefl _))
  (fun b' t' e=>by subst e; exact ⟨hS.hp.lt _ _ _ hB,.inr ⟨r,t',rfl,hB⟩⟩)
  (fun hst=>by
   have hrs : ∀ p v,Rep w (okn ok m) (· < next) m true p v → Rep w (okn ok (fun i=>if i = next then some B else if some r = some i then none else m i)) (fun i=>i < next ∨ i = next) (fun i=>if i = next then some B else if some r = some i then none else m i) true p v:=fun p v hrp=>hrp.step hst (fun _=>.inl) (by
    intro j hd
    by_cases e1:j = next
    ·subst e1; exact absurd hd (Nat.lt_irrefl _)
    ·by_cases e2:some r = some j
     ·right; simp [e1,e2]
     ·left; simp [e1,e2])
   cases B with
   | nil=>exact hob
   | «at» b tot =>
    obtain ⟨vs,h1,h2,h3,h4,h5,h6,h7⟩:=hob
    exact ⟨vs,h1,h2,h3,h4,h5,h6,fun i j e p he hp=>by
     obtain ⟨v,k1,k2,k3⟩:=h7 i j e p he hp
     exact ⟨v,k1,k2,hrs p v k3⟩⟩)
 rw [hD] at g1
 have hDD : ∀ i,i < next → i < next + 1:=fun i h=>Nat.lt_succ_of_lt h
 refine ⟨_,⟨⟨fun i o hi=>?_,g1.dom,g1.inj,g1.lt,g1.okm,g1.fresh,g1.glob⟩,fun t' p hp=>?_,hS.df,hS.sz⟩,g2,fun i hi=>g3 i (Nat.lt_of_lt_of_le hi hkn),by show k0 ≤ next + 1; exact Nat.le_succ_of_le hkn⟩
 ·rcases cH (show (delH r heap ++ [(next,AObj.row sz ty es)]).lookup i = some o from hi) with h1 | ⟨_,h1,h2⟩
  ·rw [cI] at h1
   split at h1
   ·cases h1
   ·rename_i e2
    obtain ⟨B',hB',_⟩:=hS.hp.obj i o h1
    have:i < next:=hS.hp.dom i B' hB'
    exact g1.obj i o (by simp only [Nat.ne_of_lt this,if_false]; rw [if_neg (by simpa using fun e=>e2 e.symm)]; exact h1)
  ·subst h1 h2
   exact g1.obj _ _ (by simp)
 ·have hp':((t,PVal.own next sz 0 n) :: env).lookup t' = some p:=hp
  by_cases e:t' = t
  ·subst e
   simp [List.lookup] at hp'
   subst hp'
   obtain ⟨v,hv,hrep⟩:=hS.tmp t' _ ht
   refine ⟨v,hv,?_⟩
   cases hrep with
   | own hd h1 h =>
    refine .own (Nat.lt_succ_self _) h1 fun B' hB'=>?_
    simp only [if_true,Option.some.injEq] at hB'
    subst hB'
    exact h B hB
  ·have:(t' == t) = false:=by simpa using e
   simp only [List.lookup,this] at hp'
   obtain ⟨v,hv,hrep⟩:=hS.tmp t' p hp'
   exact ⟨v,hv,hrep.step g2 hDD g3⟩
theorem WK.mvT {P:Program} {nn k0 t r sz n next:Nat} {ty:TypeId} {es:List (List PVal)} {env:List (Nat × PVal)} {heap zj:List (AId × AObj)} {Q:Exit → St → Prop} {rr:List AC} (ht:env.lookup t = some (.own r sz 0 n)) (hr:heap.lookup r = some (.row sz ty es)) (hrr:rr ≠ [])
  (hh:delH r heap ++ [(next,.row sz ty es)] = zj) (k:WK P nn k0 rr Q ⟨(t,.own next sz 0 n) :: env,zj,next + 1⟩):WK P nn k0 rr Q ⟨env,heap,next⟩:=by
 subst hh
 exact bz (Conv.mvT ht hr) k hrr
def zy.c (x:zy):List PVal:=[.int .u32 x.A,.int .i64 x.N]
def THop.c (x:THop):List PVal:=[.int .i64 x.Iface,.int .u32 x.Gate]
def qj.c (x:qj):List PVal:=[.int .u32 x.P.A,.int .i64 x.P.N,.int .i64 x.Proto,.int .i64 x.Inst,.int .i64 x.Dist,.int .i64 x.Metric,.int .u32 x.Tag,.bool x.Leaked,.int .i64 x.From,.ro 2 (x.Hops.map THop.c)]
def zv.c (x:zv):List PVal:=[.int .i64 x.Seq,.bool x.Permit,.int .u32 x.P.A,.int .i64 x.P.N,.int .i64 x.Ge,.int .i64 x.Le]
def zx.c (x:zx):List PVal:=[.int .i64 x.Seq,.bool x.Permit,.ro 6 (x.Listf.map zv.c),.int .i64 x.MKind,.int .i64 x.MLow,.int .i64 x.MHigh,.ro 1 (x.MTags.map bI),.int .i64 x.SCost,.int .i64 x.SPlus,.int .i64 x.SKind,.bool x.SetTag,.int .u32 x.STag]
def TAct.c (x:TAct):List PVal:=[.int .i64 x.Kind,.int .i64 x.At,.int .i64 x.To,.int .u32 x.C.P.A,.int .i64 x.C.P.N,.int .i64 x.C.Proto,.int .i64 x.C.Inst,.int .i64 x.C.Dist,.int .i64 x.C.Metric,.int .u32 x.C.Tag,.bool x.C.Leaked,.int .i64 x.C.From,.ro 2 (x.C.Hops.map THop.c),.ro 12 (x.Map.map zx.c)]
def TS.c (x:TS):List PVal:=[.ro 1 (x.e0.map co),.ro 1 (x.e1.map co)]
def qk.c (x:qk):List PVal:=[.ro 10 (x.L.map qj.c)]
def zz.c (x:zz):List PVal:=[.int .i64 x.From,.int .i64 x.To,.ro 12 (x.Map.map zx.c)]
def zw.c (x:zw):List PVal:=[.int .i64 x.At,.int .u32 x.P.A,.int .i64 x.P.N]
def TNet.c (x:TNet):List PVal:=[.ro 1 (x.T.map qk.c),.ro 1 (x.Sel.map (wv 10 qj.c)),.ro 3 (x.L.map zz.c),.ro 3 (x.Work.map zw.c),.bool x.Over]
def zq.c (x:zq):List PVal:=[.int .u32 x.P.A,.int .i64 x.P.N,.int .i64 x.Kind,.int .i64 x.Cost,.int .u32 x.Tag]
def TS2.c (x:TS2):List PVal:=[.int .i64 x.e0,.int .i64 x.e1,.int .i64 x.e2,.int .i64 x.e3,.int .i64 x.e4,.int .i64 x.e5]
theorem bb:(∀ {α:Type} (a b:α),cond true a b = a) ∧ (∀ {α:Type} (a b:α),cond false a b = b) ∧ (∀ b:Bool,(true && b) = b) ∧ (∀ b:Bool,(false && b) = false) ∧ (∀ b:Bool,(true || b) = true) ∧ (∀ b:Bool,(false || b) = b) ∧ ((!true) = false) ∧ ((!false) = true) :=
 ⟨fun _ _=>rfl,fun _ _=>rfl,Bool.true_and,Bool.false_and,Bool.true_or,Bool.false_or,rfl,rfl⟩
theorem ov106:OvlFn Tryz.prog 140 3 :=
 ⟨Tryz.f140,26,4,108,Tryz.func140,by kernel_rfl,by kernel_rfl,by kernel_rfl,by kernel_rfl,by kernel_rfl,by kernel_rfl⟩
theorem ov92:OvlFn Tryz.prog 129 10 :=
 ⟨Tryz.f129,34,4,42,Tryz.func129,by kernel_rfl,by kernel_rfl,by kernel_rfl,by kernel_rfl,by kernel_rfl,by kernel_rfl⟩
def zy.ok (x:zy):Prop:=InK .u32 x.A ∧ InK .i64 x.N
def THop.ok (x:THop):Prop:=InK .i64 x.Iface ∧ InK .u32 x.Gate
def qj.ok (x:qj):Prop:=zy.ok x.P ∧ InK .i64 x.Proto ∧ InK .i64 x.Inst ∧ InK .i64 x.Dist ∧ InK .i64 x.Metric ∧ InK .u32 x.Tag ∧ InK .i64 x.From ∧ (∀ y ∈ x.Hops,THop.ok y)
def zv.ok (x:zv):Prop:=InK .i64 x.Seq ∧ zy.ok x.P ∧ InK .i64 x.Ge ∧ InK .i64 x.Le
def zx.ok (x:zx):Prop:=InK .i64 x.Seq ∧ (∀ y ∈ x.Listf,zv.ok y) ∧ InK .i64 x.MKind ∧ InK .i64 x.MLow ∧ InK .i64 x.MHigh ∧ (∀ y ∈ x.MTags,InK .u32 y) ∧ InK .i64 x.SCost ∧ InK .i64 x.SPlus ∧ InK .i64 x.SKind ∧ InK .u32 x.STag
def TAct.ok (x:TAct):Prop:=InK .i64 x.Kind ∧ InK .i64 x.At ∧ InK .i64 x.To ∧ qj.ok x.C ∧ (∀ y ∈ x.Map,zx.ok y)
def TS.ok (x:TS):Prop:=(∀ y ∈ x.e0,InK .i64 y) ∧ (∀ y ∈ x.e1,InK .i64 y)
theorem of39 {n:Nat} {cs:List PVal} (h:Typed Tryz.prog (n + 2) 39 cs) : ∃ x:zy,cs = zy.c x ∧ x.ok:=by
 obtain ⟨a0,b0,rfl,h0,a1,b1,rfl,h1,rfl⟩:=bZ (n:=n + 1) Tryz.underlying39 h
 obtain ⟨i0,rfl,w0⟩:=aX Tryz.underlying37 h0
 obtain ⟨i1,rfl,w1⟩:=aX Tryz.underlying3 h1
 exact ⟨⟨i0,i1⟩,rfl,w0,w1⟩
theorem of81 {n:Nat} {cs:List PVal} (h:Typed Tryz.prog (n + 2) 81 cs) : ∃ x:THop,cs = THop.c x ∧ x.ok:=by
 obtain ⟨a0,b0,rfl,h0,a1,b1,rfl,h1,rfl⟩:=bZ (n:=n + 1) Tryz.underlying81 h
 obtain ⟨i0,rfl,w0⟩:=aX Tryz.underlying3 h0
 obtain ⟨i1,rfl,w1⟩:=aX Tryz.underlying37 h1
 exact ⟨⟨i0,i1⟩,rfl,w0,w1⟩
theorem of40 {n:Nat} {cs:List PVal} (h:Typed Tryz.prog (n + 3) 40 cs) : ∃ x:List THop,cs = [.ro 2 (x.map THop.c)] ∧ ∀ y ∈ x,THop.ok y:=by
 obtain ⟨es,rfl,h2⟩:=cj (n:=n + 2) (sz:=2) Tryz.underlying40 (by kernel_rfl) h
 obtain ⟨l,rfl,hl⟩:=dF (c:=THop.c) (ok:=(fun y=>THop.ok y)) (es:=es) (fun x hx=>of81 (h2 x hx))
 exact ⟨l,rfl,hl⟩
theorem of42 {n:Nat} {cs:List PVal} (h:Typed Tryz.prog (n + 4) 42 cs) : ∃ x:qj,cs = qj.c x ∧ x.ok:=by
 obtain ⟨a0,b0,rfl,h0,a1,b1,rfl,h1,a2,b2,rfl,h2,a3,b3,rfl,h3,a4,b4,rfl,h4,a5,b5,rfl,h5,a6,b6,rfl,h6,a7,b7,rfl,h7,a8,b8,rfl,h8,rfl⟩:=bZ (n:=n + 3) Tryz.underlying42 h
 obtain ⟨i0,rfl,w0⟩:=of39 h0
 obtain ⟨i1,rfl,w1⟩:=aX Tryz.underlying3 h1
 obtain ⟨i2,rfl,w2⟩:=aX Tryz.underlying3 h2
 obtain ⟨i3,rfl,w3⟩:=aX Tryz.underlying3 h3
 obtain ⟨i4,rfl,w4⟩:=aX Tryz.underlying3 h4
 obtain ⟨i5,rfl,w5⟩:=aX Tryz.underlying37 h5
 obtain ⟨i6,rfl⟩:=dA Tryz.underlying4 h6
 obtain ⟨i7,rfl,w7⟩:=aX Tryz.underlying3 h7
 obtain ⟨i8,rfl,w8⟩:=of40 h8
 exact ⟨⟨i0,i1,i2,i3,i4,i5,i6,i7,i8⟩,rfl,w0,w1,w2,w3,w4,w5,w7,w8⟩
theorem of158 {n:Nat} {cs:List PVal} (h:Typed Tryz.prog (n + 3) 158 cs) : ∃ x:zv,cs = zv.c x ∧ x.ok:=by
 obtain ⟨a0,b0,rfl,h0,a1,b1,rfl,h1,a2,b2,rfl,h2,a3,b3,rfl,h3,a4,b4,rfl,h4,rfl⟩:=bZ (n:=n + 2) Tryz.underlying158 h
 obtain ⟨i0,rfl,w0⟩:=aX Tryz.underlying3 h0
 obtain ⟨i1,rfl⟩:=dA Tryz.underlying4 h1
 obtain ⟨i2,rfl,w2⟩:=of39 h2
 obtain ⟨i3,rfl,w3⟩:=aX Tryz.underlying3 h3
 obtain ⟨i4,rfl,w4⟩:=aX Tryz.underlying3 h4
 exact ⟨⟨i0,i1,i2,i3,i4⟩,rfl,w0,w2,w3,w4⟩
theorem of90 {n:Nat} {cs:List PVal} (h:Typed Tryz.prog (n + 4) 90 cs) : ∃ x:List zv,cs = [.ro 6 (x.map zv.c)] ∧ ∀ y ∈ x,zv.ok y:=by
 obtain ⟨es,rfl,h2⟩:=cj (n:=n + 3) (sz:=6) Tryz.underlying90 (by kernel_rfl) h
 obtain ⟨l,rfl,hl⟩:=dF (c:=zv.c) (ok:=(fun y=>zv.ok y)) (es:=es) (fun x hx=>of158 (h2 x hx))
 exact ⟨l,rfl,hl⟩
theorem of91 {n:Nat} {cs:List PVal} (h:Typed Tryz.prog (n + 2) 91 cs) : ∃ x:List Int,cs = [.ro 1 (x.map bI)] ∧ ∀ y ∈ x,InK .u32 y:=by
 obtain ⟨es,rfl,h2⟩:=cj (n:=n + 1) (sz:=1) Tryz.underlying91 (by kernel_rfl) h
 obtain ⟨l,rfl,hl⟩:=dF (c:=bI) (ok:=(fun y=>InK .u32 y)) (es:=es) (fun x hx=>by obtain ⟨i,rfl,w⟩:=aX Tryz.underlying37 (h2 x hx); exact ⟨i,rfl,w⟩)
 exact ⟨l,rfl,hl⟩
theorem of93 {n:Nat} {cs:List PVal} (h:Typed Tryz.prog (n + 5) 93 cs) : ∃ x:zx,cs = zx.c x ∧ x.ok:=by
 obtain ⟨a0,b0,rfl,h0,a1,b1,rfl,h1,a2,b2,rfl,h2,a3,b3,rfl,h3,a4,b4,rfl,h4,a5,b5,rfl,h5,a6,b6,rfl,h6,a7,b7,rfl,h7,a8,b8,rfl,h8,a9,b9,rfl,h9,a10,b10,rfl,h10,a11,b11,rfl,h11,rfl⟩:=bZ (n:=n + 4) Tryz.underlying93 h
 obtain ⟨i0,rfl,w0⟩:=aX Tryz.underlying3 h0
 obtain ⟨i1,rfl⟩:=dA Tryz.underlying4 h1
 obtain ⟨i2,rfl,w2⟩:=of90 h2
 obtain ⟨i3,rfl,w3⟩:=aX Tryz.underlying3 h3
 obtain ⟨i4,rfl,w4⟩:=aX Tryz.underlying3 h4
 obtain ⟨i5,rfl,w5⟩:=aX Tryz.underlying3 h5
 obtain ⟨i6,rfl,w6⟩:=of91 h6
 obtain ⟨i7,rfl,w7⟩:=aX Tryz.underlying3 h7
 obtain ⟨i8,rfl,w8⟩:=aX Tryz.underlying3 h8
 obtain ⟨i9,rfl,w9⟩:=aX Tryz.underlying3 h9
 obtain ⟨i10,rfl⟩:=dA Tryz.underlying4 h10
 obtain ⟨i11,rfl,w11⟩:=aX Tryz.underlying37 h11
 exact ⟨⟨i0,i1,i2,i3,i4,i5,i6,i7,i8,i9,i10,i11⟩,rfl,w0,w2,w3,w4,w5,w6,w7,w8,w9,w11⟩
theorem of58 {n:Nat} {cs:List PVal} (h:Typed Tryz.prog (n + 6) 58 cs) : ∃ x:List zx,cs = [.ro 12 (x.map zx.c)] ∧ ∀ y ∈ x,zx.ok y:=by
 obtain ⟨es,rfl,h2⟩:=cj (n:=n + 5) (sz:=12) Tryz.underlying58 (by kernel_rfl) h
 obtain ⟨l,rfl,hl⟩:=dF (c:=zx.c) (ok:=(fun y=>zx.ok y)) (es:=es) (fun x hx=>of93 (h2 x hx))
 exact ⟨l,rfl,hl⟩
theorem of60 {n:Nat} {cs:List PVal} (h:Typed Tryz.prog (n + 7) 60 cs) : ∃ x:TAct,cs = TAct.c x ∧ x.ok:=by
 obtain ⟨a0,b0,rfl,h0,a1,b1,rfl,h1,a2,b2,rfl,h2,a3,b3,rfl,h3,a4,b4,rfl,h4,rfl⟩:=bZ (n:=n + 6) Tryz.underlying60 h
 obtain ⟨i0,rfl,w0⟩:=aX Tryz.underlying3 h0
 obtain ⟨i1,rfl,w1⟩:=aX Tryz.underlying3 h1
 obtain ⟨i2,rfl,w2⟩:=aX Tryz.underlying3 h2
 obtain ⟨i3,rfl,w3⟩:=of42 h3
 obtain ⟨i4,rfl,w4⟩:=of58 h4
 exact ⟨⟨i0,i1,i2,i3,i4⟩,rfl,w0,w1,w2,w3,w4⟩
theorem of22 {n:Nat} {cs:List PVal} (h:Typed Tryz.prog (n + 8) 22 cs) : ∃ x:List TAct,cs = [.ro 14 (x.map TAct.c)] ∧ ∀ y ∈ x,TAct.ok y:=by
 obtain ⟨es,rfl,h2⟩:=cj (n:=n + 7) (sz:=14) Tryz.underlying22 (by kernel_rfl) h
 obtain ⟨l,rfl,hl⟩:=dF (c:=TAct.c) (ok:=(fun y=>TAct.ok y)) (es:=es) (fun x hx=>of60 (h2 x hx))
 exact ⟨l,rfl,hl⟩
theorem of45 {n:Nat} {cs:List PVal} (h:Typed Tryz.prog (n + 2) 45 cs) : ∃ x:List Int,cs = [.ro 1 (x.map co)] ∧ ∀ y ∈ x,InK .i64 y:=by
 obtain ⟨es,rfl,h2⟩:=cj (n:=n + 1) (sz:=1) Tryz.underlying45 (by kernel_rfl) h
 obtain ⟨l,rfl,hl⟩:=dF (c:=co) (ok:=(fun y=>InK .i64 y)) (es:=es) (fun x hx=>by obtain ⟨i,rfl,w⟩:=aX Tryz.underlying3 (h2 x hx); exact ⟨i,rfl,w⟩)
 exact ⟨l,rfl,hl⟩
open Go Go.ChangeShapes Go.WideShapes Go.ChangeAt Go.RowKit
theorem okWide_arr {P:Program} {w:World} {base:Nat} {t e:TypeId} {n:Nat} {v:Value} (ht:P.underlying t = some (.array n e)) (h:Value.okWide P w .any base t v) : ∃ cs,v = .agg cs:=by
 simp only [Value.okWide,ht] at h
 first
  | (obtain ⟨cs,h1,_⟩:=h; exact ⟨cs,h1⟩)
  | (cases v <;> first | exact ⟨_,rfl⟩ | cases h)
section
variable {H:Type} {enc:TypeId × Value → H} {P:Program} {w:World} {base:Nat} {spare:Nat → Bool} {held:Bool}
theorem reps_of {T:PVal → Prop} : ∀ {cs:List Value},(∀ v ∈ cs,∃ q,T q ∧ Reps w OKB (· < 0) (fun _=>none) true [q] [v] ∧ v.oneCell' = true) → ∃ qs:List PVal,qs.length = cs.length ∧ (∀ q ∈ qs,T q) ∧ Reps w OKB (· < 0) (fun _=>none) true qs cs ∧ ∀ v ∈ cs,v.oneCell' = true
 | [],_=>⟨[],rfl,fun q hq=>(by cases hq),Reps.nil ..,fun v hv=>by cases hv⟩
 | v :: cs,h=>by
  obtain ⟨q,h1,h2,h3⟩:=h v List.mem_cons_self
  obtain ⟨qs,k1,k2,k3,k4⟩:=reps_of (T:=T) fun x hx=>h x (List.mem_cons_of_mem _ hx)
  refine ⟨q :: qs,by simp [k1],fun x hx=>?_,Reps.cons h2.head k3,fun x hx=>?_⟩
  ·rcases List.mem_cons.1 hx with rfl | hx
   ·exact h1
   ·exact k2 x hx
  ·rcases List.mem_cons.1 hx with rfl | hx
   ·exact h3
   ·exact k4 x hx
theorem open_arrT {n nn:Nat} {t e:TypeId} {cs:Array Value} {d:DataW H} {p:List MemPlace} (ht:P.underlying t = some (.array n e)) (hp:plainT P nn e = true) (hc:P.cellsOf t = n) (hce:P.cellsOf e = 1)
  (h:DataW.Trod enc P w base spare held t (.agg cs) d p) : ∃ qs:List PVal,qs.length = n ∧ (∀ q ∈ qs,Typed P nn e [q]) ∧ Rep w OKB (· < 0) (fun _=>none) false (.agg qs) (.agg cs):=by
 obtain ⟨fuel,hf⟩:=h
 obtain ⟨xs,m,_,_,hl,hxl,hg⟩:=DataW.trod_array ht hf
 have hl':cs.toList.length = n:=by rw [hc] at hl; exact hl
 obtain ⟨qs,h1,h2,h3,h4⟩:=reps_of (w:=w) (T:=fun q=>Typed P nn e [q]) (cs:=cs.toList) fun v hv=>by
  obtain ⟨i,hi,rfl⟩:=List.getElem_of_mem hv
  have h3:=hg i (by omega)
  rw [hce] at h3
  have hx:i < xs.length:=by omega
  have e1:(cs.toList.drop (i * 1)).take 1 = [cs.toList[i]]:=by
   rw [Nat.mul_one,List.drop_eq_getElem_cons hi]
   rfl
  have e2:(Value.agg cs).cells.toList = cs.toList:=rfl
  rw [e2,e1,List.getElem?_eq_getElem hx] at h3
  obtain ⟨ps,g1,g2,g3⟩:=fd nn _ e _ _ hp h3
  have hl:=g2.1
  match ps,hl with
  | [q],_=>exact ⟨q,g1,g2,g3 _ (by simp)⟩
 refine ⟨qs,by rw [h1,hl'],h2,?_⟩
 have:Rep w OKB (· < 0) (fun _=>none) true (.agg qs) (.agg (cs.toList.toArray)):=.agg h3.1 h4 h3.2
 rw [Array.toArray_toList] at this
 exact this.opened
end
theorem list2 {α:Type} {l:List α} (h:l.length = 2) : ∃ a b,l = [a,b]:=by
 match l,h with
 | [a,b],_=>exact ⟨a,b,rfl⟩
theorem wi64 {x:Int} (h1 : -9223372036854775808 ≤ x) (h2:x < 9223372036854775808):IntKind.i64.wrap x = x:=by
 have h3:(2:Int) ^ IntKind.i64.bits = 18446744073709551616:=by decide
 have h4:(2:Int) ^ (IntKind.i64.bits - 1) = 9223372036854775808:=by decide
 have h5:IntKind.i64.signed = true:=rfl
 simp only [IntKind.wrap,h3,h4,h5,Bool.true_and,decide_eq_true_eq,ge_iff_le]
 split <;> omega
theorem mid_eq {i j:Int} (h0:0 ≤ i) (h1:i ≤ j) (h2:j ≤ 9223372036854775807):IntKind.i64.wrap (Int.fdiv (IntKind.u64.wrap (IntKind.i64.wrap (i + j))) (2 ^ 1)) = (i + j) / 2:=by
 have e:IntKind.u64.wrap (IntKind.i64.wrap (i + j)) = i + j:=by
  have h3:(2:Int) ^ IntKind.i64.bits = 18446744073709551616:=by decide
  have h4:(2:Int) ^ (IntKind.i64.bits - 1) = 9223372036854775808:=by decide
  have h5:IntKind.i64.signed = true:=rfl
  have h6:(2:Int) ^ IntKind.u64.bits = 18446744073709551616:=by decide
  have h7:IntKind.u64.signed = false:=rfl
  have hm:(i + j) % 18446744073709551616 = i + j:=Int.emod_eq_of_lt (by omega) (by omega)
  simp only [IntKind.wrap,h3,h4,h5,h6,h7,hm,Bool.true_and,Bool.false_and,Bool.false_eq_true,if_false,decide_eq_true_eq,ge_iff_le]
  split
  ·omega
  ·omega
 rw [e,show ((2:Int) ^ 1) = 2 by decide,Int.fdiv_eq_ediv_of_nonneg _ (by decide)]
 rw [wi64] <;> omega
section
variable {α β:Type} [Inhabited α] {L:List α} {t:β} {cmp:α → β → Int}
end
end Go.Proofs.YtmfggjebbhdejaaGreat.Abs
