/- The abstract machine run by 'simp': regions as functions of states. Generic over any program. -/
import Derived.Test.YtmfggjebbhdejaaGreatA17
set_option linter.unusedVariables false
set_option linter.unusedSimpArgs false
namespace Go.Proofs.YtmfggjebbhdejaaGreat.Abs
open Go
def lk {α:Type}:List (Nat × α) → Nat → Option α
 | [],_=>none
 | (k,x) :: r,t=>bif Nat.beq t k then some x else lk r t
def GO (P:Program) (n:Nat) (K:St → Prop):List AO → St → Prop
 | [],st=>K st
 | ao :: l,st=>match opEff n st ao with
  | some e=>GO P n K l (st.app e)
  | none=>RG P n [] K (ao :: l) [] st
theorem GO.rg {P:Program} {n:Nat} {K:St → Prop} : ∀ {l:List AO} {acc:List Eff} {st:St},GO P n K l st → RG P n [] K l acc st
 | [],acc,st,h=>RG.done (.inl rfl) h
 | ao :: l,acc,st,h=>by
  unfold GO at h
  split at h
  ·rename_i e he
   exact RG.op he (GO.rg h)
  ·obtain ⟨es,st',h1,_,h3⟩:=h
   exact ⟨es,st',h1,.inl rfl,h3⟩
section
variable {P:Program} {n k0:Nat} {Q:Exit → St → Prop} {st:St}
theorem W.go {l:List AO} (hP:P.follows .mixedOrders = true) (h:GO P n (Q .normal) l st):W P n k0 (.reg [] l) Q st:=W.reg hP h.rg
theorem RG.call {K:St → Prop} {acc:List Eff} {ao:AO} {l:List AO} {e:Eff} (he:EffOk P n st ao e) (h:GO P n K l (st.app e)):RG P n [] K (ao :: l) acc st:=RG.eff he h.rg
theorem RG.go {K:St → Prop} {l:List AO} {acc:List Eff} (h:GO P n K l st):RG P n [] K l acc st:=h.rg
end
def fnInfo (P:Program) (f:FuncId):Option (Nat × List RV × AC):=match P.funcs[f]? with
 | some fn=>if fn.name == "runtime.NumGoroutine" then none else match fn.body with
  | some c=>match transC P c,resVars P fn.results.toList with
   | some ac,some ts=>some (fn.ntmps,ts,ac)
   | _,_=>none
  | none=>none
 | none=>none
theorem FnOk.of {P:Program} {f:FuncId} {n:Nat} {ts:List RV} {ac:AC} {ps:List PVal} {h0:List (AId × AObj)} {k0:Nat} {r:PVal} {h1:List (AId × AObj)} {k1:Nat} (h:fnInfo P f = some (n,ts,ac)) (hn:ps.length ≤ n) (hk:k0 ≤ k1)
  (hW:W P n k0 ac (RetQ k0 ts r h1 k1) { env:=paramE 0 ps,heap:=h0,next:=k0 }):FnOk P f ps h0 k0 r h1 k1:=by
 unfold fnInfo at h
 split at h
 ·rename_i fn hf
  split at h
  ·cases h
  ·rename_i hname
   split at h
   ·rename_i c hb
    split at h
    ·rename_i ac' ts' h1 h2
     injection h with h
     injection h with e1 e2
     injection e2 with e2 e3
     subst e1 e2 e3
     exact FnOk.of_wp hf (by simpa using hname) hb h1 h2 hn hk hW
    ·cases h
   ·cases h
 ·cases h
theorem RetQ.done {k0:Nat} {ts:List RV} {r:PVal} {h1:List (AId × AObj)} {k1:Nat} {e:Exit} {st:St} (he:e = .normal ∨ e = .ret) {qs qs':List PVal} (hq:evalRs st.env st.heap ts = some qs) {sl bi:List Nat} (hk : ∀ i,i < k0 → sl[i]? = some i) (hk0:k0 ≤ sl.length)
  (hs:slOk sl bi st.next = true) (hh:subH st.heap sl (pickH st.heap bi) sl 0 = some h1) (hv:viewP.go sl (pickH st.heap bi) qs = some qs') (hr:WeakP (retV qs') r) (hl:sl.length = k1):RetQ k0 ts r h1 k1 e st:=by
 obtain ⟨hlen,hget⟩:=viewP_go hv
 refine ⟨he,qs,{ env:=paramE 0 qs',heap:=h1,next:=sl.length },qs',hq,Conv.view hk hk0 hs hh fun t p h=>?_,?_,hr,rfl,hl⟩
 ·obtain ⟨j,rfl,hj⟩:=paramE_get h
  obtain ⟨q,h1,h2⟩:=hget j p hj
  exact ⟨q,paramE_lookup h1,h2⟩
 ·rw [← hlen]; exact evalTs_paramE qs'
end Go.Proofs.YtmfggjebbhdejaaGreat.Abs
