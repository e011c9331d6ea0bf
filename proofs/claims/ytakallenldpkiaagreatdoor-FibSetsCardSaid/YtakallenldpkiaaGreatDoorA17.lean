/- Of the abstract machine and its walks: see the texts that import this. -/
import Derived.Test.YtakallenldpkiaaGreatDoorA15
section
set_option linter.unusedVariables false
set_option linter.unusedSimpArgs false
set_option linter.unusedSectionVars false
namespace Go.Proofs.YtakallenldpkiaaGreatDoor.Abs
open Go
variable [DqC]
def pickH (heap:List (AId × AObj)):List Nat → List (AId × AObj)
 | []=>[]
 | id :: r=>match heap.lookup id with
  | some o=>(id,o) :: pickH heap r
  | none=>pickH heap r
theorem pickH_lookup (heap:List (AId × AObj)) : ∀ (ids:List Nat) (id:Nat) (o:AObj),(pickH heap ids).lookup id = some o → heap.lookup id = some o ∧ id ∈ ids
 | [],id,o,h=>by simp [pickH] at h
 | x :: r,id,o,h=>by
  unfold pickH at h
  split at h
  ·rename_i q hq
   by_cases ht:id = x
   ·subst ht
    simp [List.lookup] at h
    exact ⟨by rw [hq,h],List.mem_cons_self⟩
   ·have:(id == x) = false:=by simpa using ht
    simp only [List.lookup,this] at h
    obtain ⟨h1,h2⟩:=pickH_lookup heap r id o h
    exact ⟨h1,List.mem_cons_of_mem _ h2⟩
  ·obtain ⟨h1,h2⟩:=pickH_lookup heap r id o h
   exact ⟨h1,List.mem_cons_of_mem _ h2⟩
def subH (heap:List (AId × AObj)) (sl:List Nat) (bs:List (AId × AObj)):List Nat → Nat → Option (List (AId × AObj))
 | [],_=>some []
 | id :: r,k=>match heap.lookup id with
  | some o=>match viewO sl bs o,subH heap sl bs r (k + 1) with
   | some o',some l=>some ((k,o') :: l)
   | _,_=>none
  | none=>none
theorem subH_get {heap:List (AId × AObj)} {sl:List Nat} {bs:List (AId × AObj)} : ∀ {ids:List Nat} {k:Nat} {l:List (AId × AObj)},subH heap sl bs ids k = some l →
  (∀ (i:Nat) (o:AObj),l.lookup i = some o → ∃ (j id:Nat) (o':AObj),i = k + j ∧ ids[j]? = some id ∧ heap.lookup id = some o' ∧ viewO sl bs o' = some o) ∧ ∀ id ∈ ids,∃ o,heap.lookup id = some o
 | [],k,l,h=>by simp [subH] at h; subst h; exact ⟨fun i o h=>by simp at h,fun id h=>by simp at h⟩
 | id :: r,k,l,h=>by
  simp only [subH] at h
  split at h
  ·rename_i o ho
   split at h
   ·rename_i o' l' h1 h2
    injection h with h
    subst h
    obtain ⟨g1,g2⟩:=subH_get h2
    refine ⟨fun i o2 hi=>?_,fun id' hid=>?_⟩
    ·by_cases hk:i = k
     ·subst hk
      simp [List.lookup] at hi
      subst hi
      exact ⟨0,id,o,by simp,rfl,ho,h1⟩
     ·have:(i == k) = false:=by simpa using hk
      simp only [List.lookup,this] at hi
      obtain ⟨j,id',o3,e1,e2,e3,e4⟩:=g1 i o2 hi
      exact ⟨j + 1,id',o3,by omega,by simpa using e2,e3,e4⟩
    ·rcases List.mem_cons.1 hid with h | h
     ·subst h; exact ⟨o,ho⟩
     ·exact g2 id' h
   ·cases h
  ·cases h
def callEff (st:St) (ao:AO) (sl bi:List Nat) (r:PVal) (h1:List (AId × AObj)) (k1:Nat):Eff :=
 { rt:=tmpsG ao.g ++ tmpsX ao.xs,wt:=ao.d.map fun d=>(d,renP (tau sl st.next) r),rh:=sl ++ bi,wh:=callWh sl st.next h1 k1,nw:=List.range' st.next (k1 - sl.length) }
def slOk (sl bi:List Nat) (nx:Nat):Bool:=decide sl.Nodup && sl.all fun id=>!bi.contains id && decide (id < nx)
def FlatR (r:PVal) (h1:List (AId × AObj)):Prop:=r.flat = true ∧ ∀ i o,h1.lookup i = some o → FlatO o
section
variable {P:Program} {n:Nat} {st:St} {ao:AO} {f:FuncId} {ps qs:List PVal} {sl bi:List Nat} {h0 h1:List (AId × AObj)} {r:PVal} {k1:Nat}
theorem call_enter (hnb:ao.op ≠ .bad) (hd:dOk n ao.d = true) (hg:guarded st.env ao.g = some true) (hF:FnOk P f qs h0 sl.length r h1 k1) (hv:viewP.go sl (pickH st.heap bi) ps = some qs)
  (hh:subH st.heap sl (pickH st.heap bi) sl 0 = some h0) (hs:slOk sl bi st.next = true) (hfl:bi = [] ∨ FlatR r h1)
  (hargs : ∀ (ops:Array Oper) (o:Oper),transOper P ops o = some ao → ∀ (ds:List Deferred) (D:AId → Prop) (m:AId → Option Blk) (ok:Nat → Prop) (env:Env) (heap:Heap) (a:Act) (w:World),Sim n ds D m ok env heap a w → (∀ t ∈ tmpsX ao.xs,env t = st.e t) →
   ∃ vs:List Value,(execOp a.eval o).run P w = (callFunc f vs.toArray).run P w ∧ Reps w (okn ok m) D m false ps vs) :
  EffOk P n st ao (callEff st ao sl bi r h1 k1):=by
 refine ⟨⟨_,rfl⟩,fun ops i o ho ht=>⟨(fun x hx=>by cases hx),fun rr ds D m ok env heap a w Q K hS hrt hrh _ hnw hK=>?_⟩⟩
 obtain ⟨xs,g1,g2,g3,g4⟩:=transOper_some ht
 simp only [callEff] at hrt hrh hnw hK
 have hw:=wanted_of (P:=P) hS g2 hg fun t ht=>hrt t (List.mem_append_left _ ht)
 obtain ⟨vs,hexec,hreps⟩:=hargs ops o ht ds D m ok env heap a w hS fun t ht=>hrt t (List.mem_append_right _ ht)
 simp only [slOk,Bool.and_eq_true,decide_eq_true_eq,List.all_eq_true,Bool.not_eq_true',List.contains_eq_mem,decide_eq_false_iff_not] at hs
 obtain ⟨hnd,hs2⟩:=hs
 obtain ⟨u1,u2⟩:=subH_get hh
 have hhs : ∀ id ∈ sl,heap id = st.heap.lookup id:=fun id hid=>hrh id (List.mem_append_left _ hid)
 unfold wpOpIn
 simp only [ho,hw,if_true]
 unfold Oper.wpIn
 refine ⟨fun _ _=>trivial,?_⟩
 rw [Oper.semAt_eq _ _ _ (transOper_nd ht hnb),hexec,hF.1 vs.toArray w]
 have hframe:=hF.frame (bs:=pickH st.heap bi) (nx:=st.next) hS.hp hreps hv (fun (i:Nat) o hi=>by
   obtain ⟨j,id,o',e1,e2,e3,e4⟩:=u1 i o hi
   rw [Nat.zero_add] at e1
   subst e1
   exact ⟨id,o',e2,by rw [hhs id (List.mem_of_getElem? e2)]; exact e3,e4⟩)
  (fun id o hb=>by
   obtain ⟨e1,e2⟩:=pickH_lookup _ _ _ _ hb
   rw [hrh id (List.mem_append_right _ e2)]
   exact e1)
  hnd (fun id hid=>by
   cases hb:(pickH st.heap bi).lookup id with
   | none=>rfl
   | some o=>exact absurd (pickH_lookup _ _ _ _ hb).2 (hs2 id hid).1)
  (fun id hid=>by
   obtain ⟨o,ho⟩:=u2 id hid
   obtain ⟨B,hB,_⟩:=hS.hp.obj id o (by rw [hhs id hid]; exact ho)
   exact hS.hp.dom id B hB)
  (fun id hid=>(hs2 id hid).2)
  (hfl.imp (fun h=>by rw [h]; rfl) fun h=>h)
  (fun id h1 h2=>hnw id (List.mem_range'_1.2 ⟨h1,h2⟩))
 rw [Oper.uponIn_enter]
 refine ⟨fun h=>by simp [Fe,Fence.wide] at h,callsIn_wide.2 (Calls.mono hframe ?_)⟩
 rintro e w' ⟨v,D',m',rfl,k1',k2,k3,k4,k5⟩
 refine hK D' m' (a.put o.dst v) w' ?_ k3 k4 (fun id=>(k5 id).trans ?_)
 ·rw [g4]
  exact hS.put k1' k3 (fun id h=>(k5 id).2 (.inl h)) k4 o.dst _ v (fun t e=>by
   rw [g4,e] at hd
   simpa [dOk] using hd) k2
 ·exact or_congr_right (List.mem_range'_1).symm
theorem call_ok (hop:ao.op = .call f) (hd:dOk n ao.d = true) (hg:guarded st.env ao.g = some true) (hx:evalXs st.env ao.xs = some ps) (hF:FnOk P f qs h0 sl.length r h1 k1)
  (hv:viewP.go sl (pickH st.heap bi) ps = some qs) (hh:subH st.heap sl (pickH st.heap bi) sl 0 = some h0) (hs:slOk sl bi st.next = true) (hfl:bi = [] ∨ FlatR r h1):EffOk P n st ao (callEff st ao sl bi r h1 k1):=by
 refine call_enter (by rw [hop]; exact fun h=>by cases h) hd hg hF hv hh hs hfl fun ops o ht ds D m ok env heap a w hS ha=>?_
 obtain ⟨xs,g1,g2,g3,g4⟩:=transOper_some ht
 rw [hop] at g1
 replace g1:=g1.resolve_right (fun h=>by cases h)
 have hreps:=evalXs_rep (P:=P) hS g3 hx ha
 refine ⟨_,?_,hreps⟩
 replace g1:=trans_of0 g1 (by intro q h; cases h)
 generalize hoo:o.op = oo at g1
 unfold trans0 at g1
 split at g1
 all_goals try (first
  | (injection g1 with g1; injection g1 with e1 e2; cases e1; done)
  | cases g1)
 all_goals try (first
  | (obtain ⟨_,_,e1⟩:=Option.map_eq_some_iff.1 g1; injection e1 with e1 e2; cases e1; done)
  | (repeat' split at g1) <;> first
   | cases g1
   | (injection g1 with g1; injection g1 with e1 e2; cases e1; done)
   | (obtain ⟨_,_,e1⟩:=Option.bind_eq_some_iff.1 g1; split at e1 <;> first | (cases e1; done) | (injection e1 with e1; injection e1 with e1 e2; cases e1; done))
   | (obtain ⟨_,_,e1⟩:=Option.map_eq_some_iff.1 g1; injection e1 with e1 e2; cases e1; done))
 rename_i args ats
 unfold execOp
 simp only [hoo]
 simp only [resolve,Act.eval,Deferred.ofValue,Sem.run_bind,Sem.run_pure,Result.andThen_ok,invoke]
 congr 2
 apply Array.ext'
 simp
theorem callv_ok {g:FuncId} {first caps ps0:List PVal} (hop:ao.op = .callv) (hd:dOk n ao.d = true) (hg:guarded st.env ao.g = some true) (hx:evalXs st.env ao.xs = some (.fn g first caps :: ps0)) (hF:FnOk P g qs h0 sl.length r h1 k1)
  (hv:viewP.go sl (pickH st.heap bi) (first ++ ps0 ++ caps) = some qs) (hh:subH st.heap sl (pickH st.heap bi) sl 0 = some h0) (hs:slOk sl bi st.next = true) (hfl:bi = [] ∨ FlatR r h1):EffOk P n st ao (callEff st ao sl bi r h1 k1):=by
 refine call_enter (by rw [hop]; exact fun h=>by cases h) hd hg hF hv hh hs hfl fun ops o ht ds D m ok env heap a w hS ha=>?_
 obtain ⟨xs,g1,g2,g3,g4⟩:=transOper_some ht
 rw [hop] at g1
 replace g1:=g1.resolve_right (fun h=>by cases h)
 have hreps:=evalXs_rep (P:=P) hS g3 hx ha
 replace g1:=trans_of0 g1 (by intro q h; cases h)
 generalize hoo:o.op = oo at g1
 unfold trans0 at g1
 split at g1
 all_goals try (first
  | (injection g1 with g1; injection g1 with e1 e2; cases e1; done)
  | cases g1)
 all_goals try (first
  | (obtain ⟨_,_,e1⟩:=Option.map_eq_some_iff.1 g1; injection e1 with e1 e2; cases e1; done)
  | (repeat' split at g1) <;> first
   | cases g1
   | (injection g1 with g1; injection g1 with e1 e2; cases e1; done)
   | (obtain ⟨_,_,e1⟩:=Option.bind_eq_some_iff.1 g1; split at e1 <;> first | (cases e1; done) | (injection e1 with e1; injection e1 with e1 e2; cases e1; done))
   | (obtain ⟨_,_,e1⟩:=Option.map_eq_some_iff.1 g1; injection e1 with e1 e2; cases e1; done))
 rename_i t args ats
 simp only [List.map_cons] at hreps
 have hh:=hreps.head
 have htl:=hreps.tail
 generalize hfv:a.eval (.tmp t) = fv at hh
 cases hh with
 | fn hl1 hl2 h1 h2 =>
  rename_i fvs cvs
  refine ⟨fvs ++ args.toList.map a.eval ++ cvs,?_,(Reps.append ⟨hl1,h1⟩ htl).append ⟨hl2,h2⟩⟩
  unfold execOp
  simp only [hoo]
  simp only [Act.eval] at hfv
  simp only [resolve,Act.eval,Deferred.ofValue,Sem.run_bind,Sem.run_pure,Result.andThen_ok,invoke,hfv]
  congr 2
  apply Array.ext'
  simp
end
theorem Conv.view {k0:Nat} {st:St} {sl bi:List Nat} {env:List (Nat × PVal)} {h0:List (AId × AObj)} (hk : ∀ i,i < k0 → sl[i]? = some i) (hk0:k0 ≤ sl.length) (hs:slOk sl bi st.next = true)
  (hh:subH st.heap sl (pickH st.heap bi) sl 0 = some h0) (he : ∀ t p,env.lookup t = some p → ∃ q,st.env.lookup t = some q ∧ viewP sl (pickH st.heap bi) q = some p) :
  Conv k0 st { env,heap:=h0,next:=sl.length }:=by
 intro n ds m ok a w hkn hS
 simp only [slOk,Bool.and_eq_true,decide_eq_true_eq,List.all_eq_true,Bool.not_eq_true',List.contains_eq_mem,decide_eq_false_iff_not] at hs
 obtain ⟨hnd,hs2⟩:=hs
 obtain ⟨u1,u2⟩:=subH_get hh
 have hbh : ∀ id o,(pickH st.heap bi).lookup id = some o → st.h id = some o:=fun id o hb=>(pickH_lookup _ _ _ _ hb).1
 have hdis : ∀ id ∈ sl,(pickH st.heap bi).lookup id = none:=fun id hid=>by
  cases hb:(pickH st.heap bi).lookup id with
  | none=>rfl
  | some o=>exact absurd (pickH_lookup _ _ _ _ hb).2 (hs2 id hid).1
 have hok : ∀ b,okn ok m b → okn ok (mv m sl) b:=fun b h=>⟨h.1,(okv_okn (sl:=sl) (bs:=[]) h).2⟩
 have hb : ∀ id o,(pickH st.heap bi).lookup id = some o → ∀ b t,m id = some (.at b t) → okn ok (mv m sl) b:=fun id o hbo b t hm=>⟨hS.hp.okm id b t hm,(okv_bs hS.hp hdis id o hbo b t hm).2⟩
 refine ⟨mv m sl,⟨⟨fun i o ho=>?_,fun i B hB=>?_,fun i i' b t t' h h'=>?_,fun i b t h=>?_,fun i b t h=>?_,hS.hp.fresh,fun x hx=>⟨fun i t h=>by obtain ⟨id,q1,q2⟩:=mv_some h; exact (hS.hp.glob x hx).1 id t q2,(hS.hp.glob x hx).2⟩⟩,fun t p hp=>?_,hS.df,hS.sz⟩,⟨rfl,Tp.refl _,rfl,Nat.le_refl _,fun _ _ _=>rfl,fun i b t h=>?_⟩,fun i hi=>?_,hk0⟩
 ·obtain ⟨j,id,o',e1,e2,e3,e4⟩:=u1 i o ho
  rw [Nat.zero_add] at e1
  subst e1
  obtain ⟨B,hB,hobj⟩:=hS.hp.obj id o' e3
  exact ⟨B,by simp [mv,e2,hB],viewO_rep hS.hp mv_ids hok hbh hb hobj e4⟩
 ·obtain ⟨id,g1,_⟩:=mv_some hB
  exact (List.getElem?_eq_some_iff.1 g1).1
 ·obtain ⟨id,g1,g2⟩:=mv_some h
  obtain ⟨id',g1',g2'⟩:=mv_some h'
  have:=hS.hp.inj id id' b t t' g2 g2'
  subst this
  exact (List.getElem?_inj (List.getElem?_eq_some_iff.1 g1).1 hnd).1 (g1.trans g1'.symm)
 ·obtain ⟨id,g1,g2⟩:=mv_some h
  exact hS.hp.lt id b t g2
 ·obtain ⟨id,g1,g2⟩:=mv_some h
  exact hS.hp.okm id b t g2
 ·obtain ⟨q,hq,hvq⟩:=he t p hp
  obtain ⟨v,g1,g2⟩:=hS.tmp t q hq
  exact ⟨v,g1,viewP_rep hS.hp mv_ids hok hbh hb g2 hvq⟩
 ·obtain ⟨id,g1,g2⟩:=mv_some h
  exact .inl ⟨id,t,g2⟩
 ·left
  simp [mv,hk i hi]
end Go.Proofs.YtakallenldpkiaaGreatDoor.Abs
end
section
set_option linter.unusedVariables false
set_option linter.unusedSimpArgs false
set_option linter.unusedSectionVars false
namespace Go.Proofs.YtakallenldpkiaaGreatDoor.Abs
open Go
variable [DqC]
def lk {α:Type}:List (Nat × α) → Nat → Option α
 | [],_=>none
 | (k,x) :: r,t=>bif Nat.beq t k then some x else lk r t
def GO (P:Program) (n:Nat) (K:St → Prop):List AO → St → Prop
 | [],st=>K st
 | ao :: l,st=>match opEff n st ao with
  | some e=>GO P n K l (st.app e)
  | none=>RG P n [] K (ao :: l) [] st
theorem GO.rg {P:Program} {n:Nat} {K:St → Prop} : ∀ {l:List AO} {acc:List Eff} {st:St},GO P n K l st → RG P n [] K l acc st
 | [],acc,st,h=>RG.done (.inl rfl) h
 | ao :: l,acc,st,h=>by
  unfold GO at h
  split at h
  ·rename_i e he
   exact RG.op he (GO.rg h)
  ·obtain ⟨es,st',h1,_,h3⟩:=h
   exact ⟨es,st',h1,.inl rfl,h3⟩
section
variable {P:Program} {n k0:Nat} {Q:Exit → St → Prop} {st:St}
theorem W.go {l:List AO} (hP:P.follows .mixedOrders = true) (h:GO P n (Q .normal) l st):W P n k0 (.reg [] l) Q st:=W.reg hP h.rg
theorem RG.call {K:St → Prop} {acc:List Eff} {ao:AO} {l:List AO} {e:Eff} (he:EffOk P n st ao e) (h:GO P n K l (st.app e)):RG P n [] K (ao :: l) acc st:=RG.eff he h.rg
theorem RG.go {K:St → Prop} {l:List AO} {acc:List Eff} (h:GO P n K l st):RG P n [] K l acc st:=h.rg
end
def fnInfo (P:Program) (f:FuncId):Option (Nat × List RV × AC):=match P.funcs[f]? with
 | some fn=>if fn.name == "runtime.NumGoroutine" then none else match fn.body with
  | some c=>match transC P c,resVars P fn.results.toList with
   | some ac,some ts=>some (fn.ntmps,ts,ac)
   | _,_=>none
  | none=>none
 | none=>none
theorem FnOk.of {P:Program} {f:FuncId} {n:Nat} {ts:List RV} {ac:AC} {ps:List PVal} {h0:List (AId × AObj)} {k0:Nat} {r:PVal} {h1:List (AId × AObj)} {k1:Nat} (h:fnInfo P f = some (n,ts,ac)) (hn:ps.length ≤ n) (hk:k0 ≤ k1)
  (hW:W P n k0 ac (RetQ k0 ts r h1 k1) { env:=paramE 0 ps,heap:=h0,next:=k0 }):FnOk P f ps h0 k0 r h1 k1:=by
 unfold fnInfo at h
 split at h
 ·rename_i fn hf
  split at h
  ·cases h
  ·rename_i hname
   split at h
   ·rename_i c hb
    split at h
    ·rename_i ac' ts' h1 h2
     injection h with h
     injection h with e1 e2
     injection e2 with e2 e3
     subst e1 e2 e3
     exact FnOk.of_wp hf (by simpa using hname) hb h1 h2 hn hk hW
    ·cases h
   ·cases h
 ·cases h
theorem RetQ.done {k0:Nat} {ts:List RV} {r:PVal} {h1:List (AId × AObj)} {k1:Nat} {e:Exit} {st:St} (he:e = .normal ∨ e = .ret) {qs qs':List PVal} (hq:evalRs st.env st.heap ts = some qs) {sl bi:List Nat} (hk : ∀ i,i < k0 → sl[i]? = some i) (hk0:k0 ≤ sl.length)
  (hs:slOk sl bi st.next = true) (hh:subH st.heap sl (pickH st.heap bi) sl 0 = some h1) (hv:viewP.go sl (pickH st.heap bi) qs = some qs') (hr:WeakP (retV qs') r) (hl:sl.length = k1):RetQ k0 ts r h1 k1 e st:=by
 obtain ⟨hlen,hget⟩:=viewP_go hv
 refine ⟨he,qs,{ env:=paramE 0 qs',heap:=h1,next:=sl.length },qs',hq,Conv.view hk hk0 hs hh fun t p h=>?_,?_,hr,rfl,hl⟩
 ·obtain ⟨j,rfl,hj⟩:=paramE_get h
  obtain ⟨q,h1,h2⟩:=hget j p hj
  exact ⟨q,paramE_lookup h1,h2⟩
 ·rw [← hlen]; exact evalTs_paramE qs'
end Go.Proofs.YtakallenldpkiaaGreatDoor.Abs
end
