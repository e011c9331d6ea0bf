/- Rows whose block is told, in walks: a row is opened to its block and closed again, goes over to a new id; the end of a function that leaves fewer objects than it came with. Generic over any program. -/
import Derived.Test.YtakallenldpkiaaGreatDoorA23
set_option linter.unusedVariables false
set_option linter.unusedSimpArgs false
set_option linter.unusedSectionVars false
namespace Go.Proofs.YtakallenldpkiaaGreatDoor.Abs
open Go
variable [DqC]
def subR (heap:List (AId × AObj)) (sl:List Nat) (bs:List (AId × AObj)):List Nat → Nat → Option (List (AId × AObj))
 | [],_=>some []
 | id :: r,k=>match heap.lookup id with
  | some o=>match viewO sl bs o,subR heap sl bs r (k + 1) with
   | some o',some l=>some ((k,o') :: l)
   | _,_=>none
  | none=>subR heap sl bs r (k + 1)
theorem subR_get {heap:List (AId × AObj)} {sl:List Nat} {bs:List (AId × AObj)} : ∀ {ids:List Nat} {k:Nat} {l:List (AId × AObj)},subR heap sl bs ids k = some l →
  ∀ (i:Nat) (o:AObj),l.lookup i = some o → ∃ (j id:Nat) (o':AObj),i = k + j ∧ ids[j]? = some id ∧ heap.lookup id = some o' ∧ viewO sl bs o' = some o
 | [],k,l,h=>by simp [subR] at h; subst h; exact fun i o h=>by simp at h
 | id :: r,k,l,h=>by
  simp only [subR] at h
  split at h
  ·rename_i o ho
   split at h
   ·rename_i o' l' h1 h2
    injection h with h
    subst h
    have g1:=subR_get h2
    intro i o2 hi
    by_cases hk:i = k
    ·subst hk
     simp [List.lookup] at hi
     subst hi
     exact ⟨0,id,o,by simp,rfl,ho,h1⟩
    ·have:(i == k) = false:=by simpa using hk
     simp only [List.lookup,this] at hi
     obtain ⟨j,id',o3,e1,e2,e3,e4⟩:=g1 i o2 hi
     exact ⟨j + 1,id',o3,by omega,by simpa using e2,e3,e4⟩
   ·cases h
  ·intro i o2 hi
   obtain ⟨j,id',o3,e1,e2,e3,e4⟩:=subR_get h i o2 hi
   exact ⟨j + 1,id',o3,by omega,by simpa using e2,e3,e4⟩
theorem Conv.viewR {k0:Nat} {st:St} {sl bi:List Nat} {env:List (Nat × PVal)} {h0:List (AId × AObj)} (hk : ∀ i,i < k0 → sl[i]? = some i) (hk0:k0 ≤ sl.length) (hs:slOk sl bi st.next = true)
  (hh:subR st.heap sl (pickH st.heap bi) sl 0 = some h0) (he : ∀ t p,env.lookup t = some p → ∃ q,st.env.lookup t = some q ∧ viewP sl (pickH st.heap bi) q = some p) :
  Conv k0 st { env,heap:=h0,next:=sl.length }:=by
 intro n ds m ok a w hkn hS
 simp only [slOk,Bool.and_eq_true,decide_eq_true_eq,List.all_eq_true,Bool.not_eq_true',List.contains_eq_mem,decide_eq_false_iff_not] at hs
 obtain ⟨hnd,hs2⟩:=hs
 have u1:=subR_get hh
 have hbh : ∀ id o,(pickH st.heap bi).lookup id = some o → st.h id = some o:=fun id o hb=>(pickH_lookup _ _ _ _ hb).1
 have hdis : ∀ id ∈ sl,(pickH st.heap bi).lookup id = none:=fun id hid=>by
  cases hb:(pickH st.heap bi).lookup id with
  | none=>rfl
  | some o=>exact absurd (pickH_lookup _ _ _ _ hb).2 (hs2 id hid).1
 have hok : ∀ b,okn ok m b → okn ok (mv m sl) b:=fun b h=>⟨h.1,(okv_okn (sl:=sl) (bs:=[]) h).2⟩
 have hb : ∀ id o,(pickH st.heap bi).lookup id = some o → ∀ b t,m id = some (.at b t) → okn ok (mv m sl) b:=fun id o hbo b t hm=>⟨hS.hp.okm id b t hm,(okv_bs hS.hp hdis id o hbo b t hm).2⟩
 refine ⟨mv m sl,⟨⟨fun i o ho=>?_,fun i B hB=>?_,fun i i' b t t' h h'=>?_,fun i b t h=>?_,fun i b t h=>?_,hS.hp.fresh,fun x hx=>⟨fun i t h=>by obtain ⟨id,q1,q2⟩:=mv_some h; exact (hS.hp.glob x hx).1 id t q2,(hS.hp.glob x hx).2⟩⟩,fun t p hp=>?_,hS.df,hS.sz⟩,⟨rfl,Tp.refl _,rfl,Nat.le_refl _,fun _ _ _=>rfl,fun i b t h=>?_⟩,fun i hi=>?_,hk0⟩
 ·obtain ⟨j,id,o',e1,e2,e3,e4⟩:=u1 i o ho
  rw [Nat.zero_add] at e1
  subst e1
  obtain ⟨B,hB,hobj⟩:=hS.hp.obj id o' e3
  exact ⟨B,by simp [mv,e2,hB],viewO_rep hS.hp mv_ids hok hbh hb hobj e4⟩
 ·obtain ⟨id,g1,_⟩:=mv_some hB
  exact (List.getElem?_eq_some_iff.1 g1).1
 ·obtain ⟨id,g1,g2⟩:=mv_some h
  obtain ⟨id',g1',g2'⟩:=mv_some h'
  have:=hS.hp.inj id id' b t t' g2 g2'
  subst this
  exact (List.getElem?_inj (List.getElem?_eq_some_iff.1 g1).1 hnd).1 (g1.trans g1'.symm)
 ·obtain ⟨id,g1,g2⟩:=mv_some h
  exact hS.hp.lt id b t g2
 ·obtain ⟨id,g1,g2⟩:=mv_some h
  exact hS.hp.okm id b t g2
 ·obtain ⟨q,hq,hvq⟩:=he t p hp
  obtain ⟨v,g1,g2⟩:=hS.tmp t q hq
  exact ⟨v,g1,viewP_rep hS.hp mv_ids hok hbh hb g2 hvq⟩
 ·obtain ⟨id,g1,g2⟩:=mv_some h
  exact .inl ⟨id,t,g2⟩
 ·left
  simp [mv,hk i hi]
theorem RetQ.doneR {k0:Nat} {ts:List RV} {r:PVal} {h1:List (AId × AObj)} {k1:Nat} {e:Exit} {st:St} (he:e = .normal ∨ e = .ret) {qs qs':List PVal} (hq:evalRs st.env st.heap ts = some qs) {sl bi:List Nat} (hk : ∀ i,i < k0 → sl[i]? = some i) (hk0:k0 ≤ sl.length)
  (hs:slOk sl bi st.next = true) (hh:subR st.heap sl (pickH st.heap bi) sl 0 = some h1) (hv:viewP.go sl (pickH st.heap bi) qs = some qs') (hr:WeakP (retV qs') r) (hl:sl.length = k1):RetQ k0 ts r h1 k1 e st:=by
 obtain ⟨hlen,hget⟩:=viewP_go hv
 refine ⟨he,qs,{ env:=paramE 0 qs',heap:=h1,next:=sl.length },qs',hq,Conv.viewR hk hk0 hs hh fun t p h=>?_,?_,hr,rfl,hl⟩
 ·obtain ⟨j,rfl,hj⟩:=paramE_get h
  obtain ⟨q,h1,h2⟩:=hget j p hj
  exact ⟨q,paramE_lookup h1,h2⟩
 ·rw [← hlen]; exact evalTs_paramE qs'
theorem lookup_setH_fun (heap:List (AId × AObj)) (id:AId) (o:AObj):(fun i=>(setH id o heap).lookup i) = fun i=>if i = id then some o else heap.lookup i:=by
 funext i
 exact lookup_setH id o heap i
theorem WK.full {P:Program} {n k0:Nat} {Q:Exit → St → Prop} {c:AC} {r:List AC} {env:List (Nat × PVal)} {heap:List (AId × AObj)} {zx:Nat → List (AId × AObj)} {next id sz ty:Nat} {es:List (List PVal)} (ho:heap.lookup id = some (.row sz ty es))
  (hh : ∀ k,setH id (.full sz ty (es ++ List.replicate k (List.replicate sz .undef))) heap = zx k) (h : ∀ k,WK P n k0 (c :: r) Q ⟨env,zx k,next⟩):WK P n k0 (c :: r) Q ⟨env,heap,next⟩:=by
 intro c' hc rr ds m ok a w hk hS
 obtain ⟨B,hB,hob⟩:=hS.hp.obj id _ ho
 obtain ⟨k,hob'⟩:=row_full hob
 refine h k c' hc rr ds m ok a w hk ⟨?_,hS.tmp,hS.df,hS.sz⟩
 have:=hS.hp.weakObj (id:=id) ho (o':=.full sz ty (es ++ List.replicate k (List.replicate sz .undef))) (fun B' hB' _=>by
  rw [hB] at hB'
  injection hB' with hB'
  subst hB'
  exact hob')
 show SimH _ _ _ (fun i=>(zx k).lookup i) w
 rw [← hh k,lookup_setH_fun]
 exact this
theorem Conv.move {k0:Nat} {env:List (Nat × PVal)} {heap:List (AId × AObj)} {next id sz ty lo k t:Nat} {es:List (List PVal)} (ho:heap.lookup id = some (.row sz ty es)) (ht:env.lookup t = some (.own id sz lo k)) :
  Conv k0 ⟨env,heap,next⟩ ⟨[(t,.own next sz lo k)],[(next,.row sz ty es)],next + 1⟩:=by
 intro n ds m ok a w hkn hS
 obtain ⟨B,hB,hob⟩:=hS.hp.obj id _ ho
 have hD:(fun i:AId=>i < next ∨ i = next) = (· < next + 1):=by
  funext i
  show (i < next ∨ i = next) = (i < next + 1)
  exact propext ⟨fun h=>h.elim Nat.lt_succ_of_lt fun e=>e ▸ Nat.lt_succ_self _,fun h=>Nat.lt_or_eq_of_le (Nat.le_of_lt_succ h)⟩
 have hid:id < next:=hS.hp.dom id B hB
 obtain ⟨g1,g2,g3⟩:=hS.hp.reloc (w':=w) (some id) next B (.row sz ty es) rfl (Tp.refl w) rfl (Nat.le_refl _) (fun b hb hn=>rfl) (.inr (Nat.lt_irrefl _))
  (fun b' t' e=>by subst e; exact ⟨hS.hp.lt _ _ _ hB,.inr ⟨id,t',rfl,hB⟩⟩)
  (fun hst=>by
   have hrs : ∀ p v,Rep w (okn ok m) (· < next) m true p v → Rep w (okn ok (fun i=>if i = next then some B else if some id = some i then none else m i)) (fun i=>i < next ∨ i = next) (fun i=>if i = next then some B else if some id = some i then none else m i) true p v:=fun p v hrp=>hrp.step hst (fun _=>.inl) (by
    intro j hd
    by_cases e1:j = next
    ·subst e1; exact absurd hd (Nat.lt_irrefl _)
    ·by_cases e2:some id = some j
     ·right; simp [e1,e2]
     ·left; simp [e1,e2])
   cases B with
   | nil=>exact hob
   | «at» b tot =>
    obtain ⟨vs,h1,h2,h3,h4,h5,h6,h7⟩:=hob
    exact ⟨vs,h1,h2,h3,h4,h5,h6,fun i j e p he hp=>by
     obtain ⟨v,k1,k2,k3⟩:=h7 i j e p he hp
     exact ⟨v,k1,k2,hrs p v k3⟩⟩)
 rw [hD] at g1
 refine ⟨_,⟨⟨fun i o hi=>?_,g1.dom,g1.inj,g1.lt,g1.okm,g1.fresh,g1.glob⟩,fun t' p hp=>?_,hS.df,hS.sz⟩,g2,fun i hi=>?_,by show k0 ≤ next + 1; exact Nat.le_succ_of_le hkn⟩
 ·have hi':([(next,AObj.row sz ty es)]:List (AId × AObj)).lookup i = some o:=hi
  by_cases e:i = next
  ·subst e
   simp [List.lookup] at hi'
   subst hi'
   exact g1.obj _ _ (by simp)
  ·have:(i == next) = false:=by simpa using e
   simp [List.lookup,this] at hi'
 ·have hp':([(t,PVal.own next sz lo k)]:List (Nat × PVal)).lookup t' = some p:=hp
  by_cases e:t' = t
  ·subst e
   simp [List.lookup] at hp'
   subst hp'
   obtain ⟨v,hv,hrep⟩:=hS.tmp _ _ ht
   refine ⟨v,hv,?_⟩
   cases hrep with
   | own hd h1 h =>
    refine .own (Nat.lt_succ_self _) h1 fun B' hB'=>?_
    simp only [if_true,Option.some.injEq] at hB'
    subst hB'
    exact h B hB
  ·have:(t' == t) = false:=by simpa using e
   simp [List.lookup,this] at hp'
 ·have:i < next:=Nat.lt_of_lt_of_le hi hkn
  exact g3 i this
section
variable {h:Heap} {nx:AId} {id sz ty lo n:Nat} {es es':List (List PVal)} {k:IntKind} {i:Int} {u:Nat}
end
end Go.Proofs.YtakallenldpkiaaGreatDoor.Abs
