/- Of the abstract machine and its walks: see the texts that import this. -/
import Derived.Test.YtakallenldpkiaaGreatDoorA17
section
set_option linter.unusedVariables false
set_option linter.unusedSimpArgs false
set_option linter.unusedSectionVars false
namespace Go.Proofs.YtakallenldpkiaaGreatDoor.Abs
open Go
variable [DqC]
theorem renP_closed (τ:Nat → Nat) {p:PVal} (h:p.closed = true):renP τ p = p:=by
 have key : ∀ (n:Nat) (p:PVal),SizeOf.sizeOf p < n → p.closed = true → renP τ p = p:=by
  intro n
  induction n with
  | zero=>intro p h; omega
  | succ n ih =>
   have hl : ∀ (l:List PVal),SizeOf.sizeOf l < n + 1 → PVal.closed.go l = true → renP.go τ l = l:=by
    intro l
    induction l with
    | nil=>intro _ _; rfl
    | cons x r ihl =>
     intro hs hc
     simp only [PVal.closed.go,Bool.and_eq_true] at hc
     simp only [List.cons.sizeOf_spec] at hs
     simp only [renP.go]
     rw [ih x (by omega) hc.1,ihl (by omega) hc.2]
   intro p hs hc
   cases p <;> simp only [renP]
   case agg cs=>rw [hl cs (by simp at hs; omega) (by simpa [PVal.closed] using hc)]
   case tup cs=>rw [hl cs (by simp at hs; omega) (by simpa [PVal.closed] using hc)]
   case fn f a b =>
    simp only [PVal.closed,Bool.and_eq_true] at hc
    rw [hl a (by simp at hs; omega) hc.1,hl b (by simp at hs; omega) hc.2]
   case iface t v=>rw [ih v (by simp at hs; omega) (by simpa [PVal.closed] using hc)]
   all_goals simp [PVal.closed] at hc
 exact key (SizeOf.sizeOf p + 1) p (Nat.lt_succ_self _) h
theorem viewP_closed (sl:List Nat) (bs:List (AId × AObj)) {p:PVal} (h:p.closed = true):viewP sl bs p = some p:=by
 have key : ∀ (n:Nat) (p:PVal),SizeOf.sizeOf p < n → p.closed = true → viewP sl bs p = some p:=by
  intro n
  induction n with
  | zero=>intro p h; omega
  | succ n ih =>
   have hl : ∀ (l:List PVal),SizeOf.sizeOf l < n + 1 → PVal.closed.go l = true → viewP.go sl bs l = some l:=by
    intro l
    induction l with
    | nil=>intro _ _; rfl
    | cons x r ihl =>
     intro hs hc
     simp only [PVal.closed.go,Bool.and_eq_true] at hc
     simp only [List.cons.sizeOf_spec] at hs
     simp only [viewP.go]
     rw [ih x (by omega) hc.1,ihl (by omega) hc.2]
   intro p hs hc
   cases p <;> simp only [viewP]
   case agg cs=>rw [hl cs (by simp at hs; omega) (by simpa [PVal.closed] using hc)]
   case tup cs=>rw [hl cs (by simp at hs; omega) (by simpa [PVal.closed] using hc)]
   case fn f a b =>
    simp only [PVal.closed,Bool.and_eq_true] at hc
    rw [hl a (by simp at hs; omega) hc.1,hl b (by simp at hs; omega) hc.2]
   case iface t v=>rw [ih v (by simp at hs; omega) (by simpa [PVal.closed] using hc)]
   all_goals simp [PVal.closed] at hc
 exact key (SizeOf.sizeOf p + 1) p (Nat.lt_succ_self _) h
theorem viewPs_closed (sl:List Nat) (bs:List (AId × AObj)) : ∀ {l:List PVal},PVal.closed.go l = true → viewP.go sl bs l = some l
 | [],_=>rfl
 | p :: r,h=>by
  simp only [PVal.closed.go,Bool.and_eq_true] at h
  simp only [viewP.go,viewP_closed sl bs h.1,viewPs_closed sl bs h.2]
section
variable {P:Program} {n:Nat} {K:St → Prop} {l:List AO} {env:List (Nat × PVal)} {heap zx:List (AId × AObj)} {next zy d:Nat} {op:AOp} {xs:List AX} {ps rest:List PVal} {v v':PVal} {rh:List AId} {wh:List (AId × Option AObj)} {nw:List AId}
def hlk (heap:List (AId × AObj)):Heap:=fun id=>heap.lookup id
theorem GO.step {g:Option (Nat × Bool)} (hd:Nat.blt d n = true) (hg:guarded env g = some true) (hx:evalXs env xs = some ps) (hc:core op ps (fun id=>heap.lookup id) next = some ⟨v,rh,wh,nw⟩) (hv:v = v') (hh:happL wh heap = zx) (hn:next + nw.length = zy)
  (k:GO P n K l ⟨(d,v') :: env,zx,zy⟩):GO P n K (⟨some d,g,op,xs⟩ :: l) ⟨env,heap,next⟩:=by
 subst hv hh hn
 have hd':dOk n (some d) = true:=by simpa [dOk,Nat.blt_eq] using hd
 have hc':core op ps (St.h ⟨env,heap,next⟩) next = some ⟨v,rh,wh,nw⟩:=hc
 unfold GO opEff
 simp only [hd',if_true,hg,hx,hc',Option.map_some]
 exact k
theorem GO.step0 {g:Option (Nat × Bool)} (hg:guarded env g = some true) (hx:evalXs env xs = some ps) (hc:core op ps (fun id=>heap.lookup id) next = some ⟨v,rh,wh,nw⟩) (hh:happL wh heap = zx) (hn:next + nw.length = zy)
  (k:GO P n K l ⟨env,zx,zy⟩):GO P n K (⟨none,g,op,xs⟩ :: l) ⟨env,heap,next⟩:=by
 subst hh hn
 have hc':core op ps (St.h ⟨env,heap,next⟩) next = some ⟨v,rh,wh,nw⟩:=hc
 unfold GO opEff
 simp only [dOk,if_true,hg,hx,hc',Option.map_some]
 exact k
theorem GO.skip {g:Option (Nat × Bool)} (hd:Nat.blt d n = true) (hg:guarded env g = some false) (k:GO P n K l ⟨(d,.hole) :: env,heap,next⟩):GO P n K (⟨some d,g,op,xs⟩ :: l) ⟨env,heap,next⟩:=by
 have hd':dOk n (some d) = true:=by simpa [dOk,Nat.blt_eq] using hd
 unfold GO opEff
 simp only [hd',if_true,hg]
 exact k
theorem GO.done (k:K ⟨env,heap,next⟩):GO P n K [] ⟨env,heap,next⟩:=k
theorem GO.idx {g:Option (Nat × Bool)} {sz:Nat} {es:List (List PVal)} {ik:IntKind} {i:Int} {e:List PVal} (hd:Nat.blt d n = true) (hg:guarded env g = some true) (hx:evalXs env xs = some [.ro sz es,.int ik i]) (hi:0 ≤ i) (he:es[i.toNat]? = some e)
  (k:GO P n K l ⟨(d,.rptr e) :: env,heap,next⟩):GO P n K (⟨some d,g,.idxA sz,xs⟩ :: l) ⟨env,heap,next⟩:=by
 have hlt:=(List.getElem?_eq_some_iff.1 he).1
 refine GO.step (v:=.rptr (es.getD i.toNat [])) (rh:=[]) (wh:=[]) (nw:=[]) hd hg hx ?_ ?_ rfl rfl k
 ·simp only [core]
  rw [if_pos ⟨True.intro,hi,by omega⟩]
 ·rw [List.getD_eq_getElem?_getD,he]; rfl
theorem GO.callp {g:Option (Nat × Bool)} {f:FuncId} {r:PVal} (hd:Nat.blt d n = true) (hg:guarded env g = some true) (hx:evalXs env xs = some ps) (hF:FnOk P f ps [] 0 r [] 0) (hp:PVal.closed.go ps = true) (hr:r.closed = true)
  (k:GO P n K l ⟨(d,r) :: env,heap,next⟩):GO P n K (⟨some d,g,.call f,xs⟩ :: l) ⟨env,heap,next⟩:=by
 have hd':dOk n (some d) = true:=by simpa [dOk,Nat.blt_eq] using hd
 have he:EffOk P n ⟨env,heap,next⟩ ⟨some d,g,.call f,xs⟩ (callEff ⟨env,heap,next⟩ ⟨some d,g,.call f,xs⟩ [] [] r [] 0) :=
  call_ok rfl hd' hg hx hF (viewPs_closed _ _ hp) rfl rfl (.inl rfl)
 have hgo:GO P n K (⟨some d,g,.call f,xs⟩ :: l) ⟨env,heap,next⟩ = RG P n [] K (⟨some d,g,.call f,xs⟩ :: l) [] ⟨env,heap,next⟩:=by
  rw [GO]
  have:opEff n ⟨env,heap,next⟩ ⟨some d,g,.call f,xs⟩ = none:=by
   unfold opEff
   simp only [hd',if_true,hg,hx]
   rfl
  rw [this]
 rw [hgo]
 refine RG.call he ?_
 simp only [St.app,callEff,Option.map_some,envApp,callWh,List.range_zero,List.map_nil,happL]
 rw [renP_closed _ hr]
 exact k
theorem GO.callb {g:Option (Nat × Bool)} {f:FuncId} {qs:List PVal} {r r':PVal} {h1:List (AId × AObj)} {k1:Nat} (bi:List Nat) (hd:Nat.blt d n = true) (hg:guarded env g = some true) (hx:evalXs env xs = some ps) (hv:viewP.go [] (pickH heap bi) ps = some qs) (hF:FnOk P f qs [] 0 r h1 k1)
  (hfl:FlatR r h1) (hr:renP (tau [] next) r = r') (hh:happL (callWh [] next h1 k1) heap = zx) (hn:next + k1 = zy)
  (k:GO P n K l ⟨(d,r') :: env,zx,zy⟩):GO P n K (⟨some d,g,.call f,xs⟩ :: l) ⟨env,heap,next⟩:=by
 subst hr hh hn
 have hd':dOk n (some d) = true:=by simpa [dOk,Nat.blt_eq] using hd
 have he:EffOk P n ⟨env,heap,next⟩ ⟨some d,g,.call f,xs⟩ (callEff ⟨env,heap,next⟩ ⟨some d,g,.call f,xs⟩ [] bi r h1 k1) :=
  call_ok rfl hd' hg hx hF hv rfl rfl (.inr hfl)
 have hgo:GO P n K (⟨some d,g,.call f,xs⟩ :: l) ⟨env,heap,next⟩ = RG P n [] K (⟨some d,g,.call f,xs⟩ :: l) [] ⟨env,heap,next⟩:=by
  rw [GO]
  have:opEff n ⟨env,heap,next⟩ ⟨some d,g,.call f,xs⟩ = none:=by
   unfold opEff
   simp only [hd',if_true,hg,hx]
   rfl
  rw [this]
 rw [hgo]
 refine RG.call he ?_
 simpa only [St.app,callEff,Option.map_some,envApp,List.length_range',List.length_nil,Nat.sub_zero] using k
theorem GO.callvp {g:Option (Nat × Bool)} {f:FuncId} {first caps:List PVal} {r:PVal} (hd:Nat.blt d n = true) (hg:guarded env g = some true) (hx:evalXs env xs = some (.fn f first caps :: rest)) (hF:FnOk P f (first ++ rest ++ caps) [] 0 r [] 0)
  (hp:PVal.closed.go (first ++ rest ++ caps) = true) (hr:r.closed = true)
  (k:GO P n K l ⟨(d,r) :: env,heap,next⟩):GO P n K (⟨some d,g,.callv,xs⟩ :: l) ⟨env,heap,next⟩:=by
 have hd':dOk n (some d) = true:=by simpa [dOk,Nat.blt_eq] using hd
 have he:EffOk P n ⟨env,heap,next⟩ ⟨some d,g,.callv,xs⟩ (callEff ⟨env,heap,next⟩ ⟨some d,g,.callv,xs⟩ [] [] r [] 0) :=
  callv_ok rfl hd' hg hx hF (viewPs_closed _ _ hp) rfl rfl (.inl rfl)
 have hgo:GO P n K (⟨some d,g,.callv,xs⟩ :: l) ⟨env,heap,next⟩ = RG P n [] K (⟨some d,g,.callv,xs⟩ :: l) [] ⟨env,heap,next⟩:=by
  rw [GO]
  have:opEff n ⟨env,heap,next⟩ ⟨some d,g,.callv,xs⟩ = none:=by
   unfold opEff
   simp only [hd',if_true,hg,hx]
   rfl
  rw [this]
 rw [hgo]
 refine RG.call he ?_
 simp only [St.app,callEff,Option.map_some,envApp,callWh,List.range_zero,List.map_nil,happL]
 rw [renP_closed _ hr]
 exact k
end
end Go.Proofs.YtakallenldpkiaaGreatDoor.Abs
end
section
set_option linter.unusedVariables false
set_option linter.unusedSimpArgs false
set_option linter.unusedSectionVars false
namespace Go.Proofs.YtakallenldpkiaaGreatDoor.Abs
open Go
variable [DqC]
def WK (P:Program) (n k0:Nat):List AC → (Exit → St → Prop) → St → Prop
 | [],Q,st=>Q .normal st
 | c :: r,Q,st=>W P n k0 c (AThen (WK P n k0 r Q) Q) st
def QF (id:Nat) (again out:St → Prop) (Q:Exit → St → Prop):Exit → St → Prop
 | .normal,s=>again s
 | .exit i,s=>if i = id then out s else Q (.exit i) s
 | e,s=>Q e s
theorem wrap64_of {x:Int} (h1 : -(2 ^ 63) ≤ x) (h2:x < 2 ^ 63):IntKind.i64.wrap x = x:=by
 have h3:(2:Int) ^ IntKind.i64.bits = 18446744073709551616:=by decide
 have h4:(2:Int) ^ (IntKind.i64.bits - 1) = 9223372036854775808:=by decide
 have h5:IntKind.i64.signed = true:=rfl
 simp only [IntKind.wrap,h3,h4,h5,Bool.true_and,decide_eq_true_eq,ge_iff_le]
 split <;> omega
theorem closed_append (a b:List PVal):PVal.closed.go (a ++ b) = (PVal.closed.go a && PVal.closed.go b):=by
 induction a with
 | nil=>rfl
 | cons p r ih=>simp only [List.cons_append,PVal.closed.go,ih,Bool.and_assoc]
section
variable {P:Program} {n k0:Nat} {Q:Exit → St → Prop} {st:St} {r:List AC}
theorem W.wk {c:AC} (h:WK P n k0 [c] Q st):W P n k0 c Q st:=W.mono h fun e s hq=>by
 cases e <;> exact hq
theorem WK.reg {l:List AO} (hP:P.follows .mixedOrders = true) (h:GO P n (fun s=>WK P n k0 r Q s) l st):WK P n k0 (.reg [] l :: r) Q st:=W.go hP h
theorem WK.draw {dr:List (List Nat)} {l:List AO} (hP:P.follows .mixedOrders = true) (h:RG P n dr (fun s=>WK P n k0 r Q s) l [] st):WK P n k0 (.reg dr l :: r) Q st:=W.reg hP h
theorem WK.seq {a b:AC} (h:WK P n k0 (a :: b :: r) Q st):WK P n k0 (.seq a b :: r) Q st :=
 W.seq (W.mono h fun e s hq=>by cases e <;> exact hq)
theorem WK.cond {z:AX} {x y:AC} {b:Bool} (hz:evalX st.env z = some (.bool b)) (ht:b = true → WK P n k0 (x :: r) Q st) (hf:b = false → WK P n k0 (y :: r) Q st):WK P n k0 (.cond z x y :: r) Q st:=W.cond hz ht hf
theorem WK.condT {z:AX} {x y:AC} (hz:evalX st.env z = some (.bool true)) (ht:WK P n k0 (x :: r) Q st):WK P n k0 (.cond z x y :: r) Q st:=W.cond hz (fun _=>ht) (fun h=>by cases h)
theorem WK.condF {z:AX} {x y:AC} (hz:evalX st.env z = some (.bool false)) (hf:WK P n k0 (y :: r) Q st):WK P n k0 (.cond z x y :: r) Q st:=W.cond hz (fun h=>by cases h) (fun _=>hf)
theorem WK.condU {z:AX} {x y:AC} (hz:evalX st.env z = some .anyb) (ht:WK P n k0 (x :: r) Q st) (hf:WK P n k0 (y :: r) Q st):WK P n k0 (.cond z x y :: r) Q st:=W.condU hz ht hf
theorem WK.skip (h:WK P n k0 r Q st):WK P n k0 (.skip :: r) Q st:=W.skip h
theorem WK.ret (h:Q .ret st):WK P n k0 (.ret :: r) Q st:=W.ret h
theorem WK.exit {id:Nat} (h:Q (.exit id) st):WK P n k0 (.exit id :: r) Q st:=W.exit h
theorem WK.nil (h:Q .normal st):WK P n k0 [] Q st:=h
theorem WK.block {id:Nat} {a:AC} (h:WK P n k0 [a] (QF id (WK P n k0 r Q) (WK P n k0 r Q) Q) st):WK P n k0 (.block id a :: r) Q st:=by
 refine W.block (W.mono h fun e s hq=>?_)
 cases e with
 | exit i =>
  simp only [AThen,QF] at hq
  simp only [AIn,AThen]
  exact hq
 | normal=>exact hq
 | goto id=>exact hq
 | ret=>exact hq
 | panic id=>exact hq
 | outgrown=>exact hq
theorem WK.for {id:Nat} {x:AC} (I:Nat → St → Prop) (k:Nat) (h0:I k st) (round : ∀ k s,I k s → WK P n k0 [x] (QF id (fun s'=>∃ k',k' < k ∧ I k' s') (WK P n k0 r Q) Q) s):WK P n k0 (.block id (.loop x) :: r) Q st:=by
 refine W.block (W.loop I k h0 fun k s hI=>W.mono (round k s hI) fun e s hq=>?_)
 cases e with
 | exit i =>
  simp only [AThen,QF] at hq
  simp only [AIn,AThen]
  exact hq
 | normal=>exact hq
 | goto id=>exact hq
 | ret=>exact hq
 | panic id=>exact hq
 | outgrown=>exact hq
theorem WK.conv {st':St} (hc:Conv k0 st st') (h:WK P n k0 r Q st') (hr:r ≠ []):WK P n k0 r Q st:=by
 cases r with
 | nil=>exact absurd rfl hr
 | cons c r=>exact W.conv hc h
theorem QF.exit {id:Nat} {again out:St → Prop} {s:St} (h:out s):QF id again out Q (.exit id) s:=by simp only [QF,if_true]; exact h
theorem QF.normal {id:Nat} {again out:St → Prop} {s:St} (h:again s):QF id again out Q .normal s:=h
theorem QF.ret {id:Nat} {again out:St → Prop} {s:St} (h:Q .ret s):QF id again out Q .ret s:=h
theorem QF.other {id i:Nat} {again out:St → Prop} {s:St} (hi:Nat.beq i id = false) (h:Q (.exit i) s):QF id again out Q (.exit i) s:=by
 have:i ≠ id:=fun e=>by rw [e] at hi; simp at hi
 simp only [QF,this,if_false]; exact h
theorem FnOk.wk {f:FuncId} {ts:List RV} {ac:AC} {ps:List PVal} {h0:List (AId × AObj)} {v:PVal} {h1:List (AId × AObj)} {k1:Nat} (h:fnInfo P f = some (n,ts,ac)) (hn:Nat.ble ps.length n = true) (hk:Nat.ble k0 k1 = true)
  (hW:WK P n k0 [ac] (RetQ k0 ts v h1 k1) { env:=paramE 0 ps,heap:=h0,next:=k0 }):FnOk P f ps h0 k0 v h1 k1 :=
 FnOk.of h (Nat.le_of_ble_eq_true hn) (Nat.le_of_ble_eq_true hk) (W.wk hW)
end
def viewE (sl:List Nat) (bs:List (AId × AObj)) (env:List (Nat × PVal)):List Nat → Option (List (Nat × PVal))
 | []=>some []
 | t :: r=>match env.lookup t with
  | some p=>match viewP sl bs p,viewE sl bs env r with
   | some q,some l=>some ((t,q) :: l)
   | _,_=>none
  | none=>none
theorem viewE_get {sl:List Nat} {bs:List (AId × AObj)} {env:List (Nat × PVal)} : ∀ {ts:List Nat} {env':List (Nat × PVal)},viewE sl bs env ts = some env' → ∀ t p,env'.lookup t = some p → ∃ q,env.lookup t = some q ∧ viewP sl bs q = some p
 | [],env',h,t,p,hp=>by simp [viewE] at h; subst h; simp at hp
 | x :: r,env',h,t,p,hp=>by
  simp only [viewE] at h
  split at h
  ·rename_i p0 h0
   split at h
   ·rename_i q l h1 h2
    injection h with h
    subst h
    by_cases ht:t = x
    ·subst ht
     simp [List.lookup] at hp
     subst hp
     exact ⟨p0,h0,h1⟩
    ·have:(t == x) = false:=by simpa using ht
     simp only [List.lookup,this] at hp
     exact viewE_get h2 t p hp
   ·cases h
  ·cases h
theorem qy {sl:List Nat} {bs:List (AId × AObj)} {env:List (Nat × PVal)}:viewE sl bs env [] = some []:=rfl
theorem qx {sl:List Nat} {bs:List (AId × AObj)} {env l:List (Nat × PVal)} {t:Nat} {r:List Nat} {p q:PVal} (hl:env.lookup t = some p) (hv:viewP sl bs p = some q) (h:viewE sl bs env r = some l):viewE sl bs env (t :: r) = some ((t,q) :: l):=by
 simp only [viewE,hl,hv,h]
theorem Conv.keep {k0:Nat} {env env':List (Nat × PVal)} {heap zx:List (AId × AObj)} {next zy:Nat} (sl bi ts:List Nat) (hk:(decide (sl.take k0 = List.range k0) && Nat.ble k0 sl.length) = true) (hs:slOk sl bi next = true)
  (he:viewE sl (pickH heap bi) env ts = some env') (hh:subH heap sl (pickH heap bi) sl 0 = some zx) (hn:sl.length = zy):Conv k0 ⟨env,heap,next⟩ ⟨env',zx,zy⟩:=by
 subst hn
 simp only [Bool.and_eq_true,decide_eq_true_eq] at hk
 refine Conv.view (fun i hi=>?_) (Nat.le_of_ble_eq_true hk.2) hs hh (viewE_get he)
 have h1:(sl.take k0)[i]? = sl[i]?:=by rw [List.getElem?_take]; simp [hi]
 rw [← h1,hk.1]
 simp [hi]
theorem WK.forC {P:Program} {n k0:Nat} {Q:Exit → St → Prop} {st:St} {r:List AC} {id:Nat} {x:AC} (I:Nat → St → Prop) (k:Nat) (h0 : ∃ s0,Conv k0 st s0 ∧ I k s0)
  (round : ∀ k s,I k s → WK P n k0 [x] (QF id (fun s'=>∃ k' s0,k' < k ∧ Conv k0 s' s0 ∧ I k' s0) (WK P n k0 r Q) Q) s):WK P n k0 (.block id (.loop x) :: r) Q st:=by
 refine WK.for (fun k s=>∃ s0,Conv k0 s s0 ∧ I k s0) k h0 ?_
 rintro k s ⟨s0,hc,hI⟩
 refine WK.conv hc ?_ (by simp)
 refine W.mono (round k s0 hI) fun e s hq=>?_
 cases e <;> first
  | (obtain ⟨k',s1,a1,a2,a3⟩:=hq; exact ⟨k',a1,s1,a2,a3⟩)
  | exact hq
theorem WK.forK {P:Program} {n k0:Nat} {Q:Exit → St → Prop} {st:St} {r:List AC} {id:Nat} {x:AC} (I:Nat → St → Prop) (k:Nat) (h0 : ∃ s0,Conv k0 st s0 ∧ I k s0)
  (round : ∀ k s,I k s → ∀ (again out:St → Prop) (Q':Exit → St → Prop),(∀ s' k' s0,k' < k → Conv k0 s' s0 → I k' s0 → again s') → (∀ s',WK P n k0 r Q s' → out s') → (∀ e s',Q e s' → Q' e s') → WK P n k0 [x] (QF id again out Q') s):WK P n k0 (.block id (.loop x) :: r) Q st :=
 WK.forC I k h0 fun k s hI=>round k s hI _ _ _ (fun s' k' s0 h1 h2 h3=>⟨k',s0,h1,h2,h3⟩) (fun _ h=>h) (fun _ _ h=>h)
theorem WK.blockK {P:Program} {n k0:Nat} {Q:Exit → St → Prop} {st:St} {r:List AC} {id:Nat} {a:AC} (h : ∀ (K:St → Prop),(∀ s,WK P n k0 r Q s → K s) → WK P n k0 [a] (QF id K K Q) st):WK P n k0 (.block id a :: r) Q st :=
 WK.block (h _ fun _ h=>h)
section
variable {k0:Nat} {ts:List RV} {v:PVal} {h1:List (AId × AObj)} {k1:Nat} {e:Exit} {env:List (Nat × PVal)} {heap:List (AId × AObj)} {next:Nat} {qs:List PVal}
theorem RetQ.pure (he:e = .normal ∨ e = .ret) (hq:evalRs env heap ts = some qs) (hc:PVal.closed.go qs = true) (hr:v = retV qs):RetQ 0 ts v [] 0 e ⟨env,heap,next⟩ :=
 RetQ.done (sl:=[]) (bi:=[]) he hq (fun i h=>absurd h (Nat.not_lt_zero i)) (Nat.le_refl _) rfl rfl (viewPs_closed _ _ hc) (hr ▸ .refl) rfl
theorem RetQ.row {t id sz lo m:Nat} {ty:TypeId} {es:List (List PVal)} (he:e = .normal ∨ e = .ret) (hq:env.lookup t = some (.own id sz lo m)) (hh:heap.lookup id = some (.row sz ty es)) (hi:id < next):RetQ 0 [.t t] (.own 0 sz lo m) [(0,.row sz ty es)] 1 e ⟨env,heap,next⟩:=by
 refine RetQ.done (sl:=[id]) (bi:=[]) (qs:=[.own id sz lo m]) (qs':=[.own 0 sz lo m]) he (by simp only [evalRs,evalRV,hq]) (fun i h=>absurd h (Nat.not_lt_zero i)) (Nat.zero_le _) ?_ ?_ ?_ .refl rfl
 ·simp [slOk,hi]
 ·simp only [subH,hh,viewO]
 ·simp [viewP.go,viewP,posAt]
end
section
variable {P:Program} {n:Nat} {K:St → Prop} {l:List AO} {env:List (Nat × PVal)} {heap zx:List (AId × AObj)} {next zy d o':Nat} {op:AOp} {xs:List AX} {ps rest:List PVal} {v v':PVal} {rh:List AId}
theorem GO.pure {g:Option (Nat × Bool)} (hd:Nat.blt d n = true) (hg:guarded env g = some true) (hx:evalXs env xs = some ps) (hc:core op ps (fun id=>heap.lookup id) next = some ⟨v,rh,[],[]⟩) (hv:v = v')
  (k:GO P n K l ⟨(d,v') :: env,heap,next⟩):GO P n K (⟨some d,g,op,xs⟩ :: l) ⟨env,heap,next⟩:=GO.step hd hg hx hc hv rfl rfl k
theorem GO.app {g:Option (Nat × Bool)} {id sz by_:Nat} {ty:TypeId} {m:Nat} {es es2:List (List PVal)} {x:PVal} {rh2:List AId} (hd:Nat.blt d n = true) (hg:guarded env g = some true) (hx:evalXs env xs = some [.own id sz 0 m,x]) (ho:heap.lookup id = some (.row sz ty es)) (hm:m = es.length)
  (he:elems (fun id=>heap.lookup id) x = some (sz,es2,rh2)) (hb:(es.length + es2.length) * by_ ≤ 140737488355328) (hl:es.length + es2.length ≤ maxLen) (hid:rh2.contains id = false) (hh:happL [(next,some (.row sz ty (es ++ es2))),(id,none)] heap = zx) (hn:next + 1 = zy)
  (k:GO P n K l ⟨(d,.own next sz 0 (es.length + es2.length)) :: env,zx,zy⟩):GO P n K (⟨some d,g,.append sz ty by_,xs⟩ :: l) ⟨env,heap,next⟩:=by
 refine GO.step (rh:=id :: rh2) (wh:=[(next,some (.row sz ty (es ++ es2))),(id,none)]) (nw:=[next]) hd hg hx ?_ rfl hh hn k
 simp only [core,he,ho]
 rw [if_pos]
 refine ⟨trivial,trivial,trivial,trivial,trivial,hm,hb,hl,?_⟩
 intro hmem
 rw [List.contains_eq_mem] at hid
 simp [hmem] at hid
theorem GO.look {g:Option (Nat × Bool)} {id:Nat} {z:PVal} {lk:LK} {kvs:List (PVal × PVal)} {q:PVal} {a:Option PVal} (hd:Nat.blt d n = true) (hg:guarded env g = some true) (hx:evalXs env xs = some [.mapr id,q]) (ho:heap.lookup id = some (.mp kvs)) (hq:leafIs lk q = true) (hf:findP lk q kvs = some a) (hv:a.getD z = v)
  (k:GO P n K l ⟨(d,v) :: env,heap,next⟩):GO P n K (⟨some d,g,.lookup z false lk,xs⟩ :: l) ⟨env,heap,next⟩:=by
 subst hv
 refine GO.step (rh:=[id]) (wh:=[]) (nw:=[]) hd hg hx ?_ rfl rfl rfl k
 simp only [core,ho,hq,if_true,hf]
 cases a <;> rfl
end
end Go.Proofs.YtakallenldpkiaaGreatDoor.Abs
end
