/- The rules of the abstract machine in the form in which a proof walks through a function. Generic over any program. -/
import Derived.Test.YtmfggjebbhdejaaGreatA19
set_option linter.unusedVariables false
set_option linter.unusedSimpArgs false
namespace Go.Proofs.YtmfggjebbhdejaaGreat.Abs
open Go
def WK (P:Program) (n k0:Nat):List AC → (Exit → St → Prop) → St → Prop
 | [],Q,st=>Q .normal st
 | c :: r,Q,st=>W P n k0 c (AThen (WK P n k0 r Q) Q) st
def QF (id:Nat) (again out:St → Prop) (Q:Exit → St → Prop):Exit → St → Prop
 | .normal,s=>again s
 | .exit i,s=>if i = id then out s else Q (.exit i) s
 | e,s=>Q e s
theorem wrap64_of {x:Int} (h1 : -(2 ^ 63) ≤ x) (h2:x < 2 ^ 63):IntKind.i64.wrap x = x:=by
 have h3:(2:Int) ^ IntKind.i64.bits = 18446744073709551616:=by decide
 have h4:(2:Int) ^ (IntKind.i64.bits - 1) = 9223372036854775808:=by decide
 have h5:IntKind.i64.signed = true:=rfl
 simp only [IntKind.wrap,h3,h4,h5,Bool.true_and,decide_eq_true_eq,ge_iff_le]
 split <;> omega
theorem closed_append (a b:List PVal):PVal.closed.go (a ++ b) = (PVal.closed.go a && PVal.closed.go b):=by
 induction a with
 | nil=>rfl
 | cons p r ih=>simp only [List.cons_append,PVal.closed.go,ih,Bool.and_assoc]
section
variable {P:Program} {n k0:Nat} {Q:Exit → St → Prop} {st:St} {r:List AC}
theorem W.wk {c:AC} (h:WK P n k0 [c] Q st):W P n k0 c Q st:=W.mono h fun e s hq=>by
 cases e <;> exact hq
theorem WK.reg {l:List AO} (hP:P.follows .mixedOrders = true) (h:GO P n (fun s=>WK P n k0 r Q s) l st):WK P n k0 (.reg [] l :: r) Q st:=W.go hP h
theorem WK.draw {dr:List (List Nat)} {l:List AO} (hP:P.follows .mixedOrders = true) (h:RG P n dr (fun s=>WK P n k0 r Q s) l [] st):WK P n k0 (.reg dr l :: r) Q st:=W.reg hP h
theorem WK.seq {a b:AC} (h:WK P n k0 (a :: b :: r) Q st):WK P n k0 (.seq a b :: r) Q st :=
 W.seq (W.mono h fun e s hq=>by cases e <;> exact hq)
theorem WK.cond {z:AX} {x y:AC} {b:Bool} (hz:evalX st.env z = some (.bool b)) (ht:b = true → WK P n k0 (x :: r) Q st) (hf:b = false → WK P n k0 (y :: r) Q st):WK P n k0 (.cond z x y :: r) Q st:=W.cond hz ht hf
theorem WK.condT {z:AX} {x y:AC} (hz:evalX st.env z = some (.bool true)) (ht:WK P n k0 (x :: r) Q st):WK P n k0 (.cond z x y :: r) Q st:=W.cond hz (fun _=>ht) (fun h=>by cases h)
theorem WK.condF {z:AX} {x y:AC} (hz:evalX st.env z = some (.bool false)) (hf:WK P n k0 (y :: r) Q st):WK P n k0 (.cond z x y :: r) Q st:=W.cond hz (fun h=>by cases h) (fun _=>hf)
theorem WK.condU {z:AX} {x y:AC} (hz:evalX st.env z = some .anyb) (ht:WK P n k0 (x :: r) Q st) (hf:WK P n k0 (y :: r) Q st):WK P n k0 (.cond z x y :: r) Q st:=W.condU hz ht hf
theorem WK.skip (h:WK P n k0 r Q st):WK P n k0 (.skip :: r) Q st:=W.skip h
theorem WK.ret (h:Q .ret st):WK P n k0 (.ret :: r) Q st:=W.ret h
theorem WK.exit {id:Nat} (h:Q (.exit id) st):WK P n k0 (.exit id :: r) Q st:=W.exit h
theorem WK.nil (h:Q .normal st):WK P n k0 [] Q st:=h
theorem WK.block {id:Nat} {a:AC} (h:WK P n k0 [a] (QF id (WK P n k0 r Q) (WK P n k0 r Q) Q) st):WK P n k0 (.block id a :: r) Q st:=by
 refine W.block (W.mono h fun e s hq=>?_)
 cases e with
 | exit i =>
  simp only [AThen,QF] at hq
  simp only [AIn,AThen]
  exact hq
 | normal=>exact hq
 | goto id=>exact hq
 | ret=>exact hq
 | panic id=>exact hq
 | outgrown=>exact hq
theorem WK.for {id:Nat} {x:AC} (I:Nat → St → Prop) (k:Nat) (h0:I k st) (round : ∀ k s,I k s → WK P n k0 [x] (QF id (fun s'=>∃ k',k' < k ∧ I k' s') (WK P n k0 r Q) Q) s):WK P n k0 (.block id (.loop x) :: r) Q st:=by
 refine W.block (W.loop I k h0 fun k s hI=>W.mono (round k s hI) fun e s hq=>?_)
 cases e with
 | exit i =>
  simp only [AThen,QF] at hq
  simp only [AIn,AThen]
  exact hq
 | normal=>exact hq
 | goto id=>exact hq
 | ret=>exact hq
 | panic id=>exact hq
 | outgrown=>exact hq
theorem WK.conv {st':St} (hc:Conv k0 st st') (h:WK P n k0 r Q st') (hr:r ≠ []):WK P n k0 r Q st:=by
 cases r with
 | nil=>exact absurd rfl hr
 | cons c r=>exact W.conv hc h
theorem QF.exit {id:Nat} {again out:St → Prop} {s:St} (h:out s):QF id again out Q (.exit id) s:=by simp only [QF,if_true]; exact h
theorem QF.normal {id:Nat} {again out:St → Prop} {s:St} (h:again s):QF id again out Q .normal s:=h
theorem QF.ret {id:Nat} {again out:St → Prop} {s:St} (h:Q .ret s):QF id again out Q .ret s:=h
theorem QF.other {id i:Nat} {again out:St → Prop} {s:St} (hi:Nat.beq i id = false) (h:Q (.exit i) s):QF id again out Q (.exit i) s:=by
 have:i ≠ id:=fun e=>by rw [e] at hi; simp at hi
 simp only [QF,this,if_false]; exact h
theorem FnOk.wk {f:FuncId} {ts:List RV} {ac:AC} {ps:List PVal} {h0:List (AId × AObj)} {v:PVal} {h1:List (AId × AObj)} {k1:Nat} (h:fnInfo P f = some (n,ts,ac)) (hn:Nat.ble ps.length n = true) (hk:Nat.ble k0 k1 = true)
  (hW:WK P n k0 [ac] (RetQ k0 ts v h1 k1) { env:=paramE 0 ps,heap:=h0,next:=k0 }):FnOk P f ps h0 k0 v h1 k1 :=
 FnOk.of h (Nat.le_of_ble_eq_true hn) (Nat.le_of_ble_eq_true hk) (W.wk hW)
end
def viewE (sl:List Nat) (bs:List (AId × AObj)) (env:List (Nat × PVal)):List Nat → Option (List (Nat × PVal))
 | []=>some []
 | t :: r=>match env.lookup t with
  | some p=>match viewP sl bs p,viewE sl bs env r with
   | some q,some l=>some ((t,q) :: l)
   | _,_=>none
  | none=>none
theorem viewE_get {sl:List Nat} {bs:List (AId × AObj)} {env:List (Nat × PVal)} : ∀ {ts:List Nat} {env':List (Nat × PVal)},viewE sl bs env ts = some env' → ∀ t p,env'.lookup t = some p → ∃ q,env.lookup t = some q ∧ viewP sl bs q = some p
 | [],env',h,t,p,hp=>by simp [viewE] at h; subst h; simp at hp
 | x :: r,env',h,t,p,hp=>by
  simp only [viewE] at h
  split at h
  ·rename_i p0 h0
   split at h
   ·rename_i q l h1 h2
    injection h with h
    subst h
    by_cases ht:t = x
    ·subst ht
     simp [List.lookup] at hp
     subst hp
     exact ⟨p0,h0,h1⟩
    ·have:(t == x) = false:=by simpa using ht
     simp only [List.lookup,this] at hp
     exact viewE_get h2 t p hp
   ·cases h
  ·cases h
theorem qy {sl:List Nat} {bs:List (AId × AObj)} {env:List (Nat × PVal)}:viewE sl bs env [] = some []:=rfl
theorem qx {sl:List Nat} {bs:List (AId × AObj)} {env l:List (Nat × PVal)} {t:Nat} {r:List Nat} {p q:PVal} (hl:env.lookup t = some p) (hv:viewP sl bs p = some q) (h:viewE sl bs env r = some l):viewE sl bs env (t :: r) = some ((t,q) :: l):=by
 simp only [viewE,hl,hv,h]
theorem Conv.keep {k0:Nat} {env env':List (Nat × PVal)} {heap zj:List (AId × AObj)} {next zk:Nat} (sl bi ts:List Nat) (hk:(decide (sl.take k0 = List.range k0) && Nat.ble k0 sl.length) = true) (hs:slOk sl bi next = true)
  (he:viewE sl (pickH heap bi) env ts = some env') (hh:subH heap sl (pickH heap bi) sl 0 = some zj) (hn:sl.length = zk):Conv k0 ⟨env,heap,next⟩ ⟨env',zj,zk⟩:=by
 subst hn
 simp only [Bool.and_eq_true,decide_eq_true_eq] at hk
 refine Conv.view (fun i hi=>?_) (Nat.le_of_ble_eq_true hk.2) hs hh (viewE_get he)
 have h1:(sl.take k0)[i]? = sl[i]?:=by rw [List.getElem?_take]; simp [hi]
 rw [← h1,hk.1]
 simp [hi]
theorem WK.forC {P:Program} {n k0:Nat} {Q:Exit → St → Prop} {st:St} {r:List AC} {id:Nat} {x:AC} (I:Nat → St → Prop) (k:Nat) (h0 : ∃ s0,Conv k0 st s0 ∧ I k s0)
  (round : ∀ k s,I k s → WK P n k0 [x] (QF id (fun s'=>∃ k' s0,k' < k ∧ Conv k0 s' s0 ∧ I k' s0) (WK P n k0 r Q) Q) s):WK P n k0 (.block id (.loop x) :: r) Q st:=by
 refine WK.for (fun k s=>∃ s0,Conv k0 s s0 ∧ I k s0) k h0 ?_
 rintro k s ⟨s0,hc,hI⟩
 refine WK.conv hc ?_ (by simp)
 refine W.mono (round k s0 hI) fun e s hq=>?_
 cases e <;> first
  | (obtain ⟨k',s1,a1,a2,a3⟩:=hq; exact ⟨k',a1,s1,a2,a3⟩)
  | exact hq
theorem WK.forK {P:Program} {n k0:Nat} {Q:Exit → St → Prop} {st:St} {r:List AC} {id:Nat} {x:AC} (I:Nat → St → Prop) (k:Nat) (h0 : ∃ s0,Conv k0 st s0 ∧ I k s0)
  (round : ∀ k s,I k s → ∀ (again out:St → Prop) (Q':Exit → St → Prop),(∀ s' k' s0,k' < k → Conv k0 s' s0 → I k' s0 → again s') → (∀ s',WK P n k0 r Q s' → out s') → (∀ e s',Q e s' → Q' e s') → WK P n k0 [x] (QF id again out Q') s):WK P n k0 (.block id (.loop x) :: r) Q st :=
 WK.forC I k h0 fun k s hI=>round k s hI _ _ _ (fun s' k' s0 h1 h2 h3=>⟨k',s0,h1,h2,h3⟩) (fun _ h=>h) (fun _ _ h=>h)
theorem WK.blockK {P:Program} {n k0:Nat} {Q:Exit → St → Prop} {st:St} {r:List AC} {id:Nat} {a:AC} (h : ∀ (K:St → Prop),(∀ s,WK P n k0 r Q s → K s) → WK P n k0 [a] (QF id K K Q) st):WK P n k0 (.block id a :: r) Q st :=
 WK.block (h _ fun _ h=>h)
section
variable {k0:Nat} {ts:List RV} {v:PVal} {h1:List (AId × AObj)} {k1:Nat} {e:Exit} {env:List (Nat × PVal)} {heap:List (AId × AObj)} {next:Nat} {qs:List PVal}
theorem RetQ.pure (he:e = .normal ∨ e = .ret) (hq:evalRs env heap ts = some qs) (hc:PVal.closed.go qs = true) (hr:v = retV qs):RetQ 0 ts v [] 0 e ⟨env,heap,next⟩ :=
 RetQ.done (sl:=[]) (bi:=[]) he hq (fun i h=>absurd h (Nat.not_lt_zero i)) (Nat.le_refl _) rfl rfl (viewPs_closed _ _ hc) (hr ▸ .refl) rfl
theorem RetQ.row {t id sz lo m:Nat} {ty:TypeId} {es:List (List PVal)} (he:e = .normal ∨ e = .ret) (hq:env.lookup t = some (.own id sz lo m)) (hh:heap.lookup id = some (.row sz ty es)) (hi:id < next):RetQ 0 [.t t] (.own 0 sz lo m) [(0,.row sz ty es)] 1 e ⟨env,heap,next⟩:=by
 refine RetQ.done (sl:=[id]) (bi:=[]) (qs:=[.own id sz lo m]) (qs':=[.own 0 sz lo m]) he (by simp only [evalRs,evalRV,hq]) (fun i h=>absurd h (Nat.not_lt_zero i)) (Nat.zero_le _) ?_ ?_ ?_ .refl rfl
 ·simp [slOk,hi]
 ·simp only [subH,hh,viewO]
 ·simp [viewP.go,viewP,posAt]
end
section
variable {P:Program} {n:Nat} {K:St → Prop} {l:List AO} {env:List (Nat × PVal)} {heap zj:List (AId × AObj)} {next zk d o':Nat} {op:AOp} {xs:List AX} {ps rest:List PVal} {v v':PVal} {rh:List AId}
theorem GO.pure {g:Option (Nat × Bool)} (hd:Nat.blt d n = true) (hg:guarded env g = some true) (hx:evalXs env xs = some ps) (hc:core op ps (fun id=>heap.lookup id) next = some ⟨v,rh,[],[]⟩) (hv:v = v')
  (k:GO P n K l ⟨(d,v') :: env,heap,next⟩):GO P n K (⟨some d,g,op,xs⟩ :: l) ⟨env,heap,next⟩:=GO.step hd hg hx hc hv rfl rfl k
theorem GO.app {g:Option (Nat × Bool)} {id sz by_:Nat} {ty:TypeId} {m:Nat} {es es2:List (List PVal)} {x:PVal} {rh2:List AId} (hd:Nat.blt d n = true) (hg:guarded env g = some true) (hx:evalXs env xs = some [.own id sz 0 m,x]) (ho:heap.lookup id = some (.row sz ty es)) (hm:m = es.length)
  (he:elems (fun id=>heap.lookup id) x = some (sz,es2,rh2)) (hb:(es.length + es2.length) * by_ ≤ 140737488355328) (hl:es.length + es2.length ≤ maxLen) (hid:rh2.contains id = false) (hh:happL [(next,some (.row sz ty (es ++ es2))),(id,none)] heap = zj) (hn:next + 1 = zk)
  (k:GO P n K l ⟨(d,.own next sz 0 (es.length + es2.length)) :: env,zj,zk⟩):GO P n K (⟨some d,g,.append sz ty by_,xs⟩ :: l) ⟨env,heap,next⟩:=by
 refine GO.step (rh:=id :: rh2) (wh:=[(next,some (.row sz ty (es ++ es2))),(id,none)]) (nw:=[next]) hd hg hx ?_ rfl hh hn k
 simp only [core,he,ho]
 rw [if_pos]
 refine ⟨trivial,trivial,trivial,trivial,trivial,hm,hb,hl,?_⟩
 intro hmem
 rw [List.contains_eq_mem] at hid
 simp [hmem] at hid
end
end Go.Proofs.YtmfggjebbhdejaaGreat.Abs
