/- The rules of the abstract machine's code, and what a function leaves. Generic over any program. -/
import Derived.Sort.LoopGhostIn
import Derived.Test.YtmfggjebbhdejaaGreatA13
set_option linter.unusedVariables false
set_option linter.unusedSimpArgs false
namespace Go.Proofs.YtmfggjebbhdejaaGreat.Abs
open Go
def AThen (K:St → Prop) (Q:Exit → St → Prop):Exit → St → Prop
 | .normal,s=>K s
 | e,s=>Q e s
def AIn (id:Nat) (Q:Exit → St → Prop):Exit → St → Prop
 | .exit i,s=>if i = id then Q .normal s else Q (.exit i) s
 | e,s=>Q e s
section
variable {P:Program} {n k0:Nat} {ds:List Deferred} {Q:Exit → St → Prop} {st:St}
theorem Post.trans {m m1:AId → Option Blk} {ok:Nat → Prop} {w w1:World} {e:Exit} {a':Act} {w':World} {st':St} {m':AId → Option Blk} (h:Post n ds k0 m1 ok w1 Q e a' w' st' m') (hst:Step m w m1 w1) (hM:Mon (· < k0) m m1):Post n ds k0 m ok w Q e a' w' st' m' :=
 ⟨h.q,h.sim,hst.trans h.step,hM.trans h.mon fun _ h=>h,h.le⟩
theorem W.mono {ac:AC} {Q':Exit → St → Prop} (h:W P n k0 ac Q st) (hq : ∀ e s,Q e s → Q' e s):W P n k0 ac Q' st:=by
 intro c hc rr ds m ok a w hk hS
 refine wpIn_mono (h c hc rr ds m ok a w hk hS) ?_
 rintro e a' w' ⟨st',m',h1⟩
 exact ⟨st',m',hq _ _ h1.q,h1.sim,h1.step,h1.mon,h1.le⟩
theorem W.skip (h:Q .normal st):W P n k0 .skip Q st:=by
 intro c hc rr ds m ok a w hk hS
 cases c <;> simp only [transC] at hc
 case skip=>exact wpIn_skip ⟨st,m,h,hS,Step.refl m w,Mon.refl _ m,hk⟩
 all_goals first | cases hc | (simp [Option.map_eq_some_iff] at hc; done) | (split at hc <;> first | cases hc | (injection hc with hc; cases hc))
theorem W.ret (h:Q .ret st):W P n k0 .ret Q st:=by
 intro c hc rr ds m ok a w hk hS
 cases c <;> simp only [transC] at hc
 case ret=>exact wpIn_ret ⟨st,m,h,hS,Step.refl m w,Mon.refl _ m,hk⟩
 all_goals first | cases hc | (simp [Option.map_eq_some_iff] at hc; done) | (split at hc <;> first | cases hc | (injection hc with hc; cases hc))
theorem W.exit {id:Nat} (h:Q (.exit id) st):W P n k0 (.exit id) Q st:=by
 intro c hc rr ds m ok a w hk hS
 cases c <;> simp only [transC] at hc
 case exit id' =>
  injection hc with hc
  injection hc with hc
  subst hc
  exact wpIn_exit ⟨st,m,h,hS,Step.refl m w,Mon.refl _ m,hk⟩
 all_goals first | cases hc | (simp [Option.map_eq_some_iff] at hc; done) | (split at hc <;> first | cases hc | (injection hc with hc; cases hc))
theorem W.seq {x y:AC} (h:W P n k0 x (AThen (W P n k0 y Q) Q) st):W P n k0 (.seq x y) Q st:=by
 intro c hc rr ds m ok a w hk hS
 cases c <;> simp only [transC] at hc
 case seq c1 c2 =>
  split at hc
  ·rename_i x' y' h1 h2
   injection hc with hc
   injection hc with e1 e2
   subst e1 e2
   refine wpIn_seq (wpIn_mono (h c1 h1 rr ds m ok a w hk hS) ?_)
   rintro e a' w' ⟨st',m',hp⟩
   cases e with
   | normal =>
    refine wpIn_mono (hp.q c2 h2 rr ds m' ok a' w' hp.le hp.sim) ?_
    rintro e2 a2 w2 ⟨st2,m2,hp2⟩
    exact ⟨st2,m2,hp2.trans hp.step hp.mon⟩
   | exit id=>exact ⟨st',m',hp.q,hp.sim,hp.step,hp.mon,hp.le⟩
   | goto id=>exact ⟨st',m',hp.q,hp.sim,hp.step,hp.mon,hp.le⟩
   | ret=>exact ⟨st',m',hp.q,hp.sim,hp.step,hp.mon,hp.le⟩
   | panic id=>exact ⟨st',m',hp.q,hp.sim,hp.step,hp.mon,hp.le⟩
   | outgrown=>exact ⟨st',m',hp.q,hp.sim,hp.step,hp.mon,hp.le⟩
  ·cases hc
 all_goals first | cases hc | (simp [Option.map_eq_some_iff] at hc; done) | (split at hc <;> first | cases hc | (injection hc with hc; cases hc))
theorem W.cond {z:AX} {x y:AC} {b:Bool} (hz:evalX st.env z = some (.bool b)) (ht:b = true → W P n k0 x Q st) (hf:b = false → W P n k0 y Q st):W P n k0 (.cond z x y) Q st:=by
 intro c hc rr ds m ok a w hk hS
 cases c <;> simp only [transC] at hc
 case cond c0 c1 c2 =>
  split at hc
  ·rename_i x' y' h1 h2
   injection hc with hc
   injection hc with e0 e1 e2
   subst e0 e1 e2
   have hv:=evalX_repT (P:=P) hS hz fun t _=>rfl
   refine wpIn_cond_split (rep_bool hv) (fun h=>ht h c1 h1 rr ds m ok a w hk hS) (fun h=>hf h c2 h2 rr ds m ok a w hk hS)
  ·cases hc
 all_goals first | cases hc | (simp [Option.map_eq_some_iff] at hc; done) | (split at hc <;> first | cases hc | (injection hc with hc; cases hc))
theorem W.condU {z:AX} {x y:AC} (hz:evalX st.env z = some .anyb) (ht:W P n k0 x Q st) (hf:W P n k0 y Q st):W P n k0 (.cond z x y) Q st:=by
 intro c hc rr ds m ok a w hk hS
 cases c <;> simp only [transC] at hc
 case cond c0 c1 c2 =>
  split at hc
  ·rename_i x' y' h1 h2
   injection hc with hc
   injection hc with e0 e1 e2
   subst e0 e1 e2
   have hv:=evalX_repT (P:=P) hS hz fun t _=>rfl
   obtain ⟨b,hb⟩ : ∃ b,a.eval c0 = .bool b:=by
    generalize a.eval c0 = X at hv
    cases hv
    exact ⟨_,rfl⟩
   refine wpIn_cond_split hb (fun h=>ht c1 h1 rr ds m ok a w hk hS) (fun h=>hf c2 h2 rr ds m ok a w hk hS)
  ·cases hc
 all_goals first | cases hc | (simp [Option.map_eq_some_iff] at hc; done) | (split at hc <;> first | cases hc | (injection hc with hc; cases hc))
theorem W.block {id:Nat} {x:AC} (h:W P n k0 x (AIn id Q) st):W P n k0 (.block id x) Q st:=by
 intro c hc rr ds m ok a w hk hS
 cases c <;> simp only [transC] at hc
 case block id' c1 =>
  obtain ⟨x',h1,he⟩:=Option.map_eq_some_iff.1 hc
  injection he with e1 e2
  subst e1 e2
  refine wpIn_block (wpIn_mono (h c1 h1 rr ds m ok a w hk hS) ?_)
  rintro e a' w' ⟨st',m',hp⟩
  cases e with
  | exit i =>
   have hq:=hp.q
   simp only [AIn] at hq
   simp only [Exit.inBlock]
   split
   ·rename_i hi; rw [if_pos hi] at hq; exact ⟨st',m',hq,hp.sim,hp.step,hp.mon,hp.le⟩
   ·rename_i hi; rw [if_neg hi] at hq; exact ⟨st',m',hq,hp.sim,hp.step,hp.mon,hp.le⟩
  | normal=>exact ⟨st',m',hp.q,hp.sim,hp.step,hp.mon,hp.le⟩
  | goto id=>exact ⟨st',m',hp.q,hp.sim,hp.step,hp.mon,hp.le⟩
  | ret=>exact ⟨st',m',hp.q,hp.sim,hp.step,hp.mon,hp.le⟩
  | panic id=>exact ⟨st',m',hp.q,hp.sim,hp.step,hp.mon,hp.le⟩
  | outgrown=>exact ⟨st',m',hp.q,hp.sim,hp.step,hp.mon,hp.le⟩
 all_goals first | cases hc | (simp [Option.map_eq_some_iff] at hc; done) | (split at hc <;> first | cases hc | (injection hc with hc; cases hc))
theorem W.loop {x:AC} (I:Nat → St → Prop) (k:Nat) (h0:I k st) (round : ∀ k s,I k s → W P n k0 x (AThen (fun s'=>∃ k',k' < k ∧ I k' s') Q) s):W P n k0 (.loop x) Q st:=by
 intro c hc rr ds m ok a w hk hS
 cases c <;> simp only [transC] at hc
 case loop c1 =>
  obtain ⟨x',h1,he⟩:=Option.map_eq_some_iff.1 hc
  injection he with e1
  subst e1
  refine wpIn_loop_ghost (fun k a' w'=>∃ (st':St) (m':AId → Option Blk),Post n ds k0 m ok w (fun _ s=>I k s) .normal a' w' st' m') k ⟨st,m,h0,hS,Step.refl m w,Mon.refl _ m,hk⟩ ?_
  rintro k a' w' ⟨st',m',hp⟩
  refine wpIn_mono (round k st' hp.q c1 h1 rr ds m' ok a' w' hp.le hp.sim) ?_
  rintro e a2 w2 ⟨st2,m2,hp2⟩
  have hp3:=hp2.trans hp.step hp.mon
  cases e with
  | normal =>
   obtain ⟨k',hlt,hI⟩:=hp3.q
   exact ⟨k',hlt,st2,m2,hI,hp3.sim,hp3.step,hp3.mon,hp3.le⟩
  | exit id=>exact ⟨st2,m2,hp3.q,hp3.sim,hp3.step,hp3.mon,hp3.le⟩
  | goto id=>exact ⟨st2,m2,hp3.q,hp3.sim,hp3.step,hp3.mon,hp3.le⟩
  | ret=>exact ⟨st2,m2,hp3.q,hp3.sim,hp3.step,hp3.mon,hp3.le⟩
  | panic id=>exact ⟨st2,m2,hp3.q,hp3.sim,hp3.step,hp3.mon,hp3.le⟩
  | outgrown=>exact ⟨st2,m2,hp3.q,hp3.sim,hp3.step,hp3.mon,hp3.le⟩
 all_goals first | cases hc | (simp [Option.map_eq_some_iff] at hc; done) | (split at hc <;> first | cases hc | (injection hc with hc; cases hc))
def RG (P:Program) (n:Nat) (draw:List (List Nat)) (Q:St → Prop) (l:List AO) (acc:List Eff) (st:St):Prop :=
 ∃ (es:List Eff) (st':St),Run P n l st es st' ∧ (draw = [] ∨ drawOk draw (acc ++ es) = true) ∧ Q st'
theorem W.reg {draw:List (List Nat)} {l:List AO} (hP:P.follows .mixedOrders = true) (h:RG P n draw (Q .normal) l [] st):W P n k0 (.reg draw l) Q st:=by
 obtain ⟨es,st',h1,h2,h3⟩:=h
 exact W.run hP h1 h2 h3
theorem RG.done {draw:List (List Nat)} {K:St → Prop} {acc:List Eff} (hd:draw = [] ∨ drawOk draw acc = true) (h:K st):RG P n draw K [] acc st :=
 ⟨[],st,.nil,by rw [List.append_nil]; exact hd,h⟩
theorem RG.eff {draw:List (List Nat)} {K:St → Prop} {acc:List Eff} {ao:AO} {l:List AO} {e:Eff} (he:EffOk P n st ao e) (h:RG P n draw K l (acc ++ [e]) (st.app e)):RG P n draw K (ao :: l) acc st:=by
 obtain ⟨es,st',h1,h2,h3⟩:=h
 exact ⟨e :: es,st',.cons he h1,by rw [List.append_assoc] at h2; exact h2,h3⟩
theorem RG.op {draw:List (List Nat)} {K:St → Prop} {acc:List Eff} {ao:AO} {l:List AO} {e:Eff} (he:opEff n st ao = some e) (h:RG P n draw K l (acc ++ [e]) (st.app e)):RG P n draw K (ao :: l) acc st :=
 RG.eff (opEff_ok he) h
def Conv (k0:Nat) (st st':St):Prop:=∀ (n:Nat) (ds:List Deferred) (m:AId → Option Blk) (ok:Nat → Prop) (a:Act) (w:World),k0 ≤ st.next → Sim n ds (· < st.next) m ok st.e st.h a w →
 ∃ m',Sim n ds (· < st'.next) m' ok st'.e st'.h a w ∧ Step m w m' w ∧ Mon (· < k0) m m' ∧ k0 ≤ st'.next
theorem W.conv {ac:AC} {st':St} (hc:Conv k0 st st') (h:W P n k0 ac Q st'):W P n k0 ac Q st:=by
 intro c hcc rr ds m ok a w hk hS
 obtain ⟨m',h1,h2,h3,h4⟩:=hc n ds m ok a w hk hS
 refine wpIn_mono (h c hcc rr ds m' ok a w h4 h1) ?_
 rintro e a2 w2 ⟨st2,m2,hp2⟩
 exact ⟨st2,m2,hp2.trans h2 h3⟩
theorem Conv.trans {st1 st2:St} (h:Conv k0 st st1) (k:Conv k0 st1 st2):Conv k0 st st2:=by
 intro n ds m ok a w hk hS
 obtain ⟨m1,a1,a2,a3,a4⟩:=h n ds m ok a w hk hS
 obtain ⟨m2,b1,b2,b3,b4⟩:=k n ds m1 ok a w a4 a1
 exact ⟨m2,b1,a2.trans b2,a3.trans b3 fun _ h=>h,b4⟩
theorem Conv.env {env:List (Nat × PVal)} (h : ∀ t p,env.lookup t = some p → st.env.lookup t = some p):Conv k0 st { st with env }:=by
 intro n ds m ok a w hk hS
 exact ⟨m,⟨hS.hp,fun t p hp=>hS.tmp t p (h t p hp),hS.df,hS.sz⟩,Step.refl m w,Mon.refl _ m,hk⟩
def pickE (env:List (Nat × PVal)):List Nat → List (Nat × PVal)
 | []=>[]
 | t :: r=>match env.lookup t with
  | some p=>(t,p) :: pickE env r
  | none=>pickE env r
theorem pickE_lookup (env:List (Nat × PVal)) : ∀ (ts:List Nat) (t:Nat) (p:PVal),(pickE env ts).lookup t = some p → env.lookup t = some p
 | [],t,p,h=>by simp [pickE] at h
 | t' :: r,t,p,h=>by
  unfold pickE at h
  split at h
  ·rename_i q hq
   by_cases ht:t = t'
   ·subst ht
    simp [List.lookup] at h
    rw [hq,h]
   ·have:(t == t') = false:=by simpa using ht
    simp only [List.lookup,this] at h
    exact pickE_lookup env r t p h
  ·exact pickE_lookup env r t p h
theorem Conv.pick (ts:List Nat):Conv k0 st { st with env:=pickE st.env ts }:=Conv.env fun t p h=>pickE_lookup _ ts t p h
theorem Conv.heap {heap:List (AId × AObj)} (h : ∀ i o,heap.lookup i = some o → st.heap.lookup i = some o):Conv k0 st { st with heap }:=by
 intro n ds m ok a w hk hS
 exact ⟨m,⟨⟨fun id o ho=>hS.hp.obj id o (h id o ho),hS.hp.dom,hS.hp.inj,hS.hp.lt,hS.hp.okm,hS.hp.fresh,hS.hp.glob⟩,hS.tmp,hS.df,hS.sz⟩,Step.refl m w,Mon.refl _ m,hk⟩
end
end Go.Proofs.YtmfggjebbhdejaaGreat.Abs
