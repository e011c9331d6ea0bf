/- Calls of all shapes, with whatever objects they take; states kept of which some objects are gone. Generic over any program. -/
import Derived.Test.YtakallenldpkiaaGreatDoorA26
set_option linter.unusedVariables false
set_option linter.unusedSimpArgs false
set_option linter.unusedSectionVars false
namespace Go.Proofs.YtakallenldpkiaaGreatDoor.Abs
open Go
variable [DqC]
section
variable {P:Program} {n k0:Nat} {K:St → Prop} {l:List AO} {env env':List (Nat × PVal)} {heap zx:List (AId × AObj)} {next zy d:Nat} {xs:List AX} {ps ps0 qs first caps:List PVal} {dr:List (List Nat)} {racc:List Eff} {g:Option (Nat × Bool)} {f:FuncId} {r r':PVal} {h0 h1:List (AId × AObj)} {k1:Nat}
theorem GO.effn {ao:AO} {e:Eff} (hn:opEff n ⟨env,heap,next⟩ ao = none) (he:EffOk P n ⟨env,heap,next⟩ ao e) (k:GO P n K l (St.app ⟨env,heap,next⟩ e)):GO P n K (ao :: l) ⟨env,heap,next⟩:=by
 have hgo:GO P n K (ao :: l) ⟨env,heap,next⟩ = RG P n [] K (ao :: l) [] ⟨env,heap,next⟩:=by
  rw [GO,hn]
 rw [hgo]
 exact RG.call he k
theorem opEff_callv {d:Option Nat} (hd:dOk n d = true) (hg:guarded env g = some true) (hx:evalXs env xs = some ps):opEff n ⟨env,heap,next⟩ ⟨d,g,.callv,xs⟩ = none:=by
 unfold opEff
 simp only [hd,if_true,hg,hx]
 rfl
theorem GX.callvx (sl bi:List Nat) (hd:Nat.blt d n = true) (hg:guarded env g = some true) (hx:evalXs env xs = some (.fn f first caps :: ps0)) (hv:viewP.go sl (pickH heap bi) (first ++ ps0 ++ caps) = some qs)
  (h0':subH heap sl (pickH heap bi) sl 0 = some h0) (hs:slOk sl bi next = true) (hF:FnOk P f qs h0 sl.length r h1 k1) (hfl:bi = [] ∨ FlatR r h1) (hr:renP (tau sl next) r = r') (hh:happL (callWh sl next h1 k1) heap = zx) (hn:next + (k1 - sl.length) = zy)
  (k:GX P n K l ⟨(d,r') :: env,zx,zy⟩):GX P n K (⟨some d,g,.callv,xs⟩ :: l) ⟨env,heap,next⟩:=by
 subst hr hh hn
 have hd':dOk n (some d) = true:=by simpa [dOk,Nat.blt_eq] using hd
 refine ⟨GO.effn (opEff_callv hd' hg hx) (callv_ok (st:=⟨env,heap,next⟩) (ao:=⟨some d,g,.callv,xs⟩) rfl hd' hg hx hF hv h0' hs hfl) ?_⟩
 simpa only [St.app,callEff,Option.map_some,envApp,List.length_range'] using k.run
theorem RD.callvx (sl bi:List Nat) (hd:Nat.blt d n = true) (hg:guarded env g = some true) (hx:evalXs env xs = some (.fn f first caps :: ps0)) (hv:viewP.go sl (pickH heap bi) (first ++ ps0 ++ caps) = some qs)
  (h0':subH heap sl (pickH heap bi) sl 0 = some h0) (hs:slOk sl bi next = true) (hF:FnOk P f qs h0 sl.length r h1 k1) (hfl:bi = [] ∨ FlatR r h1) (hr:renP (tau sl next) r = r') (hh:happL (callWh sl next h1 k1) heap = zx) (hn:next + (k1 - sl.length) = zy)
  (k:RD P n dr K l ({ rt:=tmpsG g ++ tmpsX xs,wt:=some (d,.undef),rh:=sl ++ bi,wh:=(callWh sl next h1 k1).map fun x=>(x.1,none),nw:=[] } :: racc) ⟨(d,r') :: env,zx,zy⟩):RD P n dr K (⟨some d,g,.callv,xs⟩ :: l) racc ⟨env,heap,next⟩:=by
 subst hr hh hn
 have hd':dOk n (some d) = true:=by simpa [dOk,Nat.blt_eq] using hd
 refine RD.eff (callv_ok (st:=⟨env,heap,next⟩) (ao:=⟨some d,g,.callv,xs⟩) rfl hd' hg hx hF (sl:=sl) (bi:=bi) hv h0' hs hfl) ?_
 simpa only [St.app,Eff.er,callEff,Option.map_some,envApp,List.length_range'] using k
theorem Conv.keepR (sl bi ts:List Nat) (hk:(decide (sl.take k0 = List.range k0) && Nat.ble k0 sl.length) = true) (hs:slOk sl bi next = true)
  (he:viewE sl (pickH heap bi) env ts = some env') (hh:subR heap sl (pickH heap bi) sl 0 = some zx) (hn:sl.length = zy):Conv k0 ⟨env,heap,next⟩ ⟨env',zx,zy⟩:=by
 subst hn
 simp only [Bool.and_eq_true,decide_eq_true_eq] at hk
 refine Conv.viewR (fun i hi=>?_) (Nat.le_of_ble_eq_true hk.2) hs hh (viewE_get he)
 have h1:(sl.take k0)[i]? = sl[i]?:=by rw [List.getElem?_take]; simp [hi]
 rw [← h1,hk.1]
 simp [hi]
end
theorem subR_nil {heap:List (AId × AObj)} {sl:List Nat} {bs:List (AId × AObj)} {k:Nat}:subR heap sl bs [] k = some []:=rfl
theorem subR_cons {heap l:List (AId × AObj)} {sl:List Nat} {bs:List (AId × AObj)} {id k:Nat} {r:List Nat} {o o':AObj} (ho:heap.lookup id = some o) (hv:viewO sl bs o = some o') (hr:subR heap sl bs r (k + 1) = some l):subR heap sl bs (id :: r) k = some ((k,o') :: l):=by
 simp only [subR,ho,hv,hr]
theorem subR_skip {heap l:List (AId × AObj)} {sl:List Nat} {bs:List (AId × AObj)} {id k:Nat} {r:List Nat} (ho:heap.lookup id = none) (hr:subR heap sl bs r (k + 1) = some l):subR heap sl bs (id :: r) k = some l:=by
 simp only [subR,ho,hr]
theorem RetQ.ret {k0 k1:Nat} {ts:List RV} {r:PVal} {h1:List (AId × AObj)} {e:Exit} {env:List (Nat × PVal)} {heap:List (AId × AObj)} {next:Nat} {qs qs':List PVal} (sl bi:List Nat) (he:e = .normal ∨ e = .ret) (hq:evalRs env heap ts = some qs)
  (hk:(decide (sl.take k0 = List.range k0) && Nat.ble k0 sl.length) = true) (hs:slOk sl bi next = true) (hh:subR heap sl (pickH heap bi) sl 0 = some h1) (hv:viewP.go sl (pickH heap bi) qs = some qs') (hr:WeakP (retV qs') r) (hl:sl.length = k1):RetQ k0 ts r h1 k1 e ⟨env,heap,next⟩:=by
 simp only [Bool.and_eq_true,decide_eq_true_eq] at hk
 refine RetQ.doneR he hq (fun i hi=>?_) (Nat.le_of_ble_eq_true hk.2) hs hh hv hr hl
 have h1:(sl.take k0)[i]? = sl[i]?:=by rw [List.getElem?_take]; simp [hi]
 rw [← h1,hk.1]
 simp [hi]
theorem Conv.mvB {k0 id j r sz n next:Nat} {ty:TypeId} {cs:List PVal} {es:List (List PVal)} {env:List (Nat × PVal)} {heap:List (AId × AObj)} (ho:heap.lookup id = some (.box cs)) (hj:cs[j]? = some (.own r sz 0 n)) (hr:heap.lookup r = some (.row sz ty es)) :
  Conv k0 ⟨env,heap,next⟩ ⟨env,setH id (.box (cs.set j (.own next sz 0 n))) (delH r heap) ++ [(next,.row sz ty es)],next + 1⟩:=by
 intro nn ds m ok a w hkn hS
 obtain ⟨B,hB,hob⟩:=hS.hp.obj r _ hr
 obtain ⟨Bb,hBb,hbox⟩:=hS.hp.obj id _ ho
 have hne:id ≠ r:=fun e=>by
  subst e
  rw [ho] at hr
  cases hr
 have hrn:r < next:=hS.hp.dom r B hB
 have hin:id < next:=hS.hp.dom id Bb hBb
 have hD:(fun i:AId=>i < next ∨ i = next) = (· < next + 1):=by
  funext i
  show (i < next ∨ i = next) = (i < next + 1)
  exact propext ⟨fun h=>h.elim Nat.lt_succ_of_lt fun e=>e ▸ Nat.lt_succ_self _,fun h=>Nat.lt_or_eq_of_le (Nat.le_of_lt_succ h)⟩
 obtain ⟨g1,g2,g3⟩:=hS.hp.reloc (w':=w) (some r) next B (.row sz ty es) rfl (Tp.refl w) rfl (Nat.le_refl _) (fun b hb hn=>rfl) (.inr (Nat.lt_irrefl _))
  (fun b' t' e=>by subst e; exact ⟨hS.hp.lt _ _ _ hB,.inr ⟨r,t',rfl,hB⟩⟩)
  (fun hst=>by
   have hrs : ∀ p v,Rep w (okn ok m) (· < next) m true p v → Rep w (okn ok (fun i=>if i = next then some B else if some r = some i then none else m i)) (fun i=>i < next ∨ i = next) (fun i=>if i = next then some B else if some r = some i then none else m i) true p v:=fun p v hrp=>hrp.step hst (fun _=>.inl) (by
    intro j hd
    by_cases e1:j = next
    ·subst e1; exact absurd hd (Nat.lt_irrefl _)
    ·by_cases e2:some r = some j
     ·right; simp [e1,e2]
     ·left; simp [e1,e2])
   cases B with
   | nil=>exact hob
   | «at» b tot =>
    obtain ⟨vs,h1,h2,h3,h4,h5,h6,h7⟩:=hob
    exact ⟨vs,h1,h2,h3,h4,h5,h6,fun i j e p he hp=>by
     obtain ⟨v,k1,k2,k3⟩:=h7 i j e p he hp
     exact ⟨v,k1,k2,hrs p v k3⟩⟩)
 rw [hD] at g1
 have hDD : ∀ i,i < next → i < next + 1:=fun i h=>Nat.lt_succ_of_lt h
 refine ⟨_,⟨⟨fun i o hi=>?_,g1.dom,g1.inj,g1.lt,g1.okm,g1.fresh,g1.glob⟩,fun t' p hp=>?_,hS.df,hS.sz⟩,g2,fun i hi=>g3 i (Nat.lt_of_lt_of_le hi hkn),by show k0 ≤ next + 1; exact Nat.le_succ_of_le hkn⟩
 ·rcases lookup_snoc (show (setH id (.box (cs.set j (.own next sz 0 n))) (delH r heap) ++ [(next,AObj.row sz ty es)]).lookup i = some o from hi) with h1 | ⟨_,h1,h2⟩
  ·rw [lookup_setH] at h1
   split at h1
   ·rename_i e
    subst e
    injection h1 with h1
    subst h1
    refine ⟨Bb,by simp only [Nat.ne_of_lt hin,if_false]; rw [if_neg (by simpa using fun e=>hne e.symm)]; exact hBb,?_⟩
    cases Bb with
    | nil=>exact hbox.elim
    | «at» b t =>
     obtain ⟨vs,ty',c1,c2,c3⟩:=hbox
     refine ⟨vs,ty',c1,by simpa using c2,fun q p hq=>?_⟩
     by_cases hqj:q = j
     ·subst hqj
      have hlt':q < cs.length:=(List.getElem?_eq_some_iff.1 hj).1
      have:p = .own next sz 0 n:=by simpa [List.getElem?_set,hlt'] using hq.symm
      subst this
      obtain ⟨v,b1,b2,b3⟩:=c3 q _ hj
      refine ⟨v,b1,b2,?_⟩
      cases b3 with
      | own hd h1 h =>
       refine .own (Nat.lt_succ_self _) h1 fun B' hB'=>?_
       simp only [if_true,Option.some.injEq] at hB'
       subst hB'
       exact h B hB
     ·have hq':cs[q]? = some p:=by
       rw [List.getElem?_set] at hq
       simpa [show ¬ j = q from fun e=>hqj e.symm] using hq
      obtain ⟨v,b1,b2,b3⟩:=c3 q p hq'
      exact ⟨v,b1,b2,b3.step g2 hDD g3⟩
   ·rw [lookup_delH] at h1
    split at h1
    ·cases h1
    ·rename_i e1 e2
     obtain ⟨B',hB',_⟩:=hS.hp.obj i o h1
     have:i < next:=hS.hp.dom i B' hB'
     exact g1.obj i o (by simp only [Nat.ne_of_lt this,if_false]; rw [if_neg (by simpa using fun e=>e2 e.symm)]; exact h1)
  ·subst h1 h2
   exact g1.obj _ _ (by simp)
 ·obtain ⟨v,hv,hrep⟩:=hS.tmp t' p hp
  exact ⟨v,hv,hrep.step g2 hDD g3⟩
theorem WK.mvB {P:Program} {nn k0 id j r sz n next:Nat} {ty:TypeId} {cs:List PVal} {es:List (List PVal)} {env:List (Nat × PVal)} {heap zx:List (AId × AObj)} {Q:Exit → St → Prop} {rr:List AC} (ho:heap.lookup id = some (.box cs)) (hj:cs[j]? = some (.own r sz 0 n)) (hr:heap.lookup r = some (.row sz ty es)) (hrr:rr ≠ [])
  (hh:setH id (.box (cs.set j (.own next sz 0 n))) (delH r heap) ++ [(next,.row sz ty es)] = zx) (k:WK P nn k0 rr Q ⟨env,zx,next + 1⟩):WK P nn k0 rr Q ⟨env,heap,next⟩:=by
 subst hh
 exact WK.conv (Conv.mvB ho hj hr) k hrr
theorem Conv.mvT {k0 t r sz n next:Nat} {ty:TypeId} {es:List (List PVal)} {env:List (Nat × PVal)} {heap:List (AId × AObj)} (ht:env.lookup t = some (.own r sz 0 n)) (hr:heap.lookup r = some (.row sz ty es)) :
  Conv k0 ⟨env,heap,next⟩ ⟨(t,.own next sz 0 n) :: env,delH r heap ++ [(next,.row sz ty es)],next + 1⟩:=by
 intro nn ds m ok a w hkn hS
 obtain ⟨B,hB,hob⟩:=hS.hp.obj r _ hr
 have hD:(fun i:AId=>i < next ∨ i = next) = (· < next + 1):=by
  funext i
  show (i < next ∨ i = next) = (i < next + 1)
  exact propext ⟨fun h=>h.elim Nat.lt_succ_of_lt fun e=>e ▸ Nat.lt_succ_self _,fun h=>Nat.lt_or_eq_of_le (Nat.le_of_lt_succ h)⟩
 obtain ⟨g1,g2,g3⟩:=hS.hp.reloc (w':=w) (some r) next B (.row sz ty es) rfl (Tp.refl w) rfl (Nat.le_refl _) (fun b hb hn=>rfl) (.inr (Nat.lt_irrefl _))
  (fun b' t' e=>by subst e; exact ⟨hS.hp.lt _ _ _ hB,.inr ⟨r,t',rfl,hB⟩⟩)
  (fun hst=>by
   have hrs : ∀ p v,Rep w (okn ok m) (· < next) m true p v → Rep w (okn ok (fun i=>if i = next then some B else if some r = some i then none else m i)) (fun i=>i < next ∨ i = next) (fun i=>if i = next then some B else if some r = some i then none else m i) true p v:=fun p v hrp=>hrp.step hst (fun _=>.inl) (by
    intro j hd
    by_cases e1:j = next
    ·subst e1; exact absurd hd (Nat.lt_irrefl _)
    ·by_cases e2:some r = some j
     ·right; simp [e1,e2]
     ·left; simp [e1,e2])
   cases B with
   | nil=>exact hob
   | «at» b tot =>
    obtain ⟨vs,h1,h2,h3,h4,h5,h6,h7⟩:=hob
    exact ⟨vs,h1,h2,h3,h4,h5,h6,fun i j e p he hp=>by
     obtain ⟨v,k1,k2,k3⟩:=h7 i j e p he hp
     exact ⟨v,k1,k2,hrs p v k3⟩⟩)
 rw [hD] at g1
 have hDD : ∀ i,i < next → i < next + 1:=fun i h=>Nat.lt_succ_of_lt h
 refine ⟨_,⟨⟨fun i o hi=>?_,g1.dom,g1.inj,g1.lt,g1.okm,g1.fresh,g1.glob⟩,fun t' p hp=>?_,hS.df,hS.sz⟩,g2,fun i hi=>g3 i (Nat.lt_of_lt_of_le hi hkn),by show k0 ≤ next + 1; exact Nat.le_succ_of_le hkn⟩
 ·rcases lookup_snoc (show (delH r heap ++ [(next,AObj.row sz ty es)]).lookup i = some o from hi) with h1 | ⟨_,h1,h2⟩
  ·rw [lookup_delH] at h1
   split at h1
   ·cases h1
   ·rename_i e2
    obtain ⟨B',hB',_⟩:=hS.hp.obj i o h1
    have:i < next:=hS.hp.dom i B' hB'
    exact g1.obj i o (by simp only [Nat.ne_of_lt this,if_false]; rw [if_neg (by simpa using fun e=>e2 e.symm)]; exact h1)
  ·subst h1 h2
   exact g1.obj _ _ (by simp)
 ·have hp':((t,PVal.own next sz 0 n) :: env).lookup t' = some p:=hp
  by_cases e:t' = t
  ·subst e
   simp [List.lookup] at hp'
   subst hp'
   obtain ⟨v,hv,hrep⟩:=hS.tmp t' _ ht
   refine ⟨v,hv,?_⟩
   cases hrep with
   | own hd h1 h =>
    refine .own (Nat.lt_succ_self _) h1 fun B' hB'=>?_
    simp only [if_true,Option.some.injEq] at hB'
    subst hB'
    exact h B hB
  ·have:(t' == t) = false:=by simpa using e
   simp only [List.lookup,this] at hp'
   obtain ⟨v,hv,hrep⟩:=hS.tmp t' p hp'
   exact ⟨v,hv,hrep.step g2 hDD g3⟩
theorem WK.mvT {P:Program} {nn k0 t r sz n next:Nat} {ty:TypeId} {es:List (List PVal)} {env:List (Nat × PVal)} {heap zx:List (AId × AObj)} {Q:Exit → St → Prop} {rr:List AC} (ht:env.lookup t = some (.own r sz 0 n)) (hr:heap.lookup r = some (.row sz ty es)) (hrr:rr ≠ [])
  (hh:delH r heap ++ [(next,.row sz ty es)] = zx) (k:WK P nn k0 rr Q ⟨(t,.own next sz 0 n) :: env,zx,next + 1⟩):WK P nn k0 rr Q ⟨env,heap,next⟩:=by
 subst hh
 exact WK.conv (Conv.mvT ht hr) k hrr
end Go.Proofs.YtakallenldpkiaaGreatDoor.Abs
