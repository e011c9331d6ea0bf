/- Of the abstract machine and its walks: see the texts that import this. -/
import Derived.Test.YtakallenldpkiaaGreatDoorA12
import Derived.Sort.LoopGhostIn
section
set_option linter.unusedVariables false
set_option linter.unusedSimpArgs false
set_option linter.unusedSectionVars false
namespace Go.Proofs.YtakallenldpkiaaGreatDoor.Abs
open Go
variable [DqC]
def setH (id:AId) (o:AObj):List (AId × AObj) → List (AId × AObj)
 | []=>[(id,o)]
 | (j,x) :: r=>if j = id then (id,o) :: r else (j,x) :: setH id o r
def delH (id:AId):List (AId × AObj) → List (AId × AObj)
 | []=>[]
 | (j,x) :: r=>if j = id then delH id r else (j,x) :: delH id r
def happL:List (AId × Option AObj) → List (AId × AObj) → List (AId × AObj)
 | [],h=>h
 | (id,some o) :: r,h=>setH id o (happL r h)
 | (id,none) :: r,h=>delH id (happL r h)
theorem lookup_setH (id:AId) (o:AObj) : ∀ (h:List (AId × AObj)) (j:AId),(setH id o h).lookup j = if j = id then some o else h.lookup j
 | [],j=>by
  by_cases hj:j = id
  ·simp [setH,List.lookup,hj]
  ·have:(j == id) = false:=by simpa using hj
   simp [setH,List.lookup,hj,this]
 | (k,x) :: r,j=>by
  unfold setH
  by_cases hk:k = id
  ·subst hk
   by_cases hj:j = k
   ·simp [List.lookup,hj]
   ·have:(j == k) = false:=by simpa using hj
    simp [List.lookup,this,hj]
  ·simp only [hk,if_false,List.lookup]
   by_cases hj:j = k
   ·subst hj
    simp [hk]
   ·have:(j == k) = false:=by simpa using hj
    simp only [this]
    exact lookup_setH id o r j
theorem lookup_delH (id:AId) : ∀ (h:List (AId × AObj)) (j:AId),(delH id h).lookup j = if j = id then none else h.lookup j
 | [],j=>by simp [delH]
 | (k,x) :: r,j=>by
  unfold delH
  by_cases hk:k = id
  ·subst hk
   simp only [if_true]
   rw [lookup_delH k r j]
   by_cases hj:j = k
   ·simp [hj]
   ·have:(j == k) = false:=by simpa using hj
    simp [List.lookup,this,hj]
  ·simp only [hk,if_false,List.lookup]
   by_cases hj:j = k
   ·subst hj
    simp [hk]
   ·have:(j == k) = false:=by simpa using hj
    simp only [this]
    exact lookup_delH id r j
theorem lookup_happL : ∀ (wh:List (AId × Option AObj)) (h:List (AId × AObj)) (j:AId),(happL wh h).lookup j = happ wh (fun id=>h.lookup id) j
 | [],h,j=>by simp [happL,happ]
 | (id,o) :: r,h,j=>by
  cases o with
  | none =>
   rw [happL,lookup_delH,lookup_happL r h j]
   by_cases hj:j = id
   ·simp [happ,List.lookup,hj]
   ·have:(j == id) = false:=by simpa using hj
    simp [happ,List.lookup,this,hj]
  | some o =>
   rw [happL,lookup_setH,lookup_happL r h j]
   by_cases hj:j = id
   ·simp [happ,List.lookup,hj]
   ·have:(j == id) = false:=by simpa using hj
    simp [happ,List.lookup,this,hj]
def envApp:Option (Nat × PVal) → List (Nat × PVal) → List (Nat × PVal)
 | some x,env=>x :: env
 | none,env=>env
def St.app (st:St) (e:Eff):St:={ env:=envApp e.wt st.env,heap:=happL e.wh st.heap,next:=st.next + e.nw.length }
theorem St.app_e (st:St) (e:Eff):(st.app e).e = eapp e.wt st.e:=by
 funext t
 unfold St.app St.e eapp envApp
 cases e.wt with
 | none=>rfl
 | some x =>
  obtain ⟨d,p⟩:=x
  by_cases ht:t = d
  ·simp [List.lookup,ht]
  ·have:(t == d) = false:=by simpa using ht
   simp [List.lookup,this,ht]
theorem St.app_h (st:St) (e:Eff):(st.app e).h = happ e.wh st.h:=by
 funext t
 exact lookup_happL _ _ _
def EffOk (P:Program) (n:Nat) (st:St) (ao:AO) (e:Eff):Prop :=
 (∃ k,e.nw = List.range' st.next k) ∧ ∀ (ops:Array Oper) (i:Nat) (o:Oper),ops[i]? = some o → transOper P ops o = some ao → OpSem P ops i n e st.e st.h
theorem opEff_ok {P:Program} {n:Nat} {st:St} {ao:AO} {e:Eff} (he:opEff n st ao = some e):EffOk P n st ao e:=by
 refine ⟨?_,fun ops i o ho ht=>opEff_sound ho ht he⟩
 unfold opEff at he
 split at he
 ·split at he
  ·split at he
   ·obtain ⟨r,hr,rfl⟩:=Option.map_eq_some_iff.1 he
    rcases core_nw hr with h | h
    ·exact ⟨0,by simp [h]⟩
    ·exact ⟨1,by simp [h]⟩
   ·cases he
  ·injection he with he
   subst he
   exact ⟨0,by simp⟩
  ·cases he
 ·cases he
inductive Run (P:Program) (n:Nat):List AO → St → List Eff → St → Prop where
 | nil {st:St}:Run P n [] st [] st
 | cons {ao:AO} {r:List AO} {st st':St} {e:Eff} {es:List Eff} (h:EffOk P n st ao e) (k:Run P n r (st.app e) es st'):Run P n (ao :: r) st (e :: es) st'
theorem envL_off : ∀ (es:List Eff) (L:Nat → Bool) (k:Nat) (env:Env),(∀ j,k ≤ j → L j = false) → envL es L k env = env
 | [],_,_,_,_=>rfl
 | e :: r,L,k,env,h=>by simp only [envL,h k (Nat.le_refl _),Bool.false_eq_true,if_false]; exact envL_off r L (k + 1) env fun j hj=>h j (by omega)
theorem heapL_off : ∀ (es:List Eff) (L:Nat → Bool) (k:Nat) (env:Heap),(∀ j,k ≤ j → L j = false) → heapL es L k env = env
 | [],_,_,_,_=>rfl
 | e :: r,L,k,env,h=>by simp only [heapL,h k (Nat.le_refl _),Bool.false_eq_true,if_false]; exact heapL_off r L (k + 1) env fun j hj=>h j (by omega)
theorem Run.len {P:Program} {n:Nat} {l:List AO} {st st':St} {es:List Eff} (h:Run P n l st es st'):es.length = l.length:=by
 induction h with
 | nil=>rfl
 | cons _ _ ih=>simp [ih]
theorem Run.op {P:Program} {n:Nat} {l:List AO} {st st':St} {es:List Eff} (h:Run P n l st es st') : ∀ (k i:Nat) (e:Eff),es[i]? = some e →
  ∃ (ao:AO) (sti:St),l[i]? = some ao ∧ EffOk P n sti ao e ∧ sti.e = envL es (fun j=>decide (j < k + i)) k st.e ∧ sti.h = heapL es (fun j=>decide (j < k + i)) k st.h:=by
 induction h with
 | nil=>intro k i e he; simp at he
 | @cons ao r st st' e0 es h0 h1 ih =>
  intro k i e he
  cases i with
  | zero =>
   simp only [List.getElem?_cons_zero,Option.some.injEq] at he
   subst he
   refine ⟨ao,st,rfl,h0,?_,?_⟩
   ·rw [envL_off _ _ _ _ (fun j hj=>by simp; omega)]
   ·rw [heapL_off _ _ _ _ (fun j hj=>by simp; omega)]
  | succ i =>
   obtain ⟨ao',sti,g1,g2,g3,g4⟩:=ih (k + 1) i e (by simpa using he)
   refine ⟨ao',sti,by simpa using g1,g2,?_,?_⟩
   ·have hk:k < k + (i + 1):=by omega
    simp only [envL,hk,decide_true,if_true]
    rw [g3,St.app_e,show k + 1 + i = k + (i + 1) by omega]
   ·have hk:k < k + (i + 1):=by omega
    simp only [heapL,hk,decide_true,if_true]
    rw [g4,St.app_h,show k + 1 + i = k + (i + 1) by omega]
theorem Run.fin {P:Program} {n:Nat} {l:List AO} {st st':St} {es:List Eff} (h:Run P n l st es st') : ∀ k,st'.e = envL es (fun _=>true) k st.e ∧ st'.h = heapL es (fun _=>true) k st.h:=by
 induction h with
 | nil=>intro k; exact ⟨rfl,rfl⟩
 | cons h0 h1 ih=>intro k; simp only [envL,heapL,if_true]; rw [← St.app_e,← St.app_h]; exact ih (k + 1)
theorem Run.nw {P:Program} {n:Nat} {l:List AO} {st st':St} {es:List Eff} (h:Run P n l st es st') :
  st.next ≤ st'.next ∧ (∀ (i:Nat) (e:Eff) (id:Nat),es[i]? = some e → id ∈ e.nw → st.next ≤ id ∧ id < st'.next) ∧ (∀ (i j:Nat) (e f:Eff) (id:Nat),es[i]? = some e → es[j]? = some f → id ∈ e.nw → id ∈ f.nw → i = j) ∧
   (∀ (id:Nat),st.next ≤ id → id < st'.next → ∃ (i:Nat) (e:Eff),es[i]? = some e ∧ id ∈ e.nw):=by
 induction h with
 | nil=>exact ⟨Nat.le_refl _,fun i e id h=>by simp at h,fun i j e f id h=>by simp at h,fun id h1 h2=>by omega⟩
 | @cons ao r st st' e0 es h0 h1 ih =>
  obtain ⟨a1,a2,a3,a4⟩:=ih
  obtain ⟨k,hk⟩:=h0.1
  have hn:(st.app e0).next = st.next + k:=by simp [St.app,hk]
  have hin : ∀ (id:Nat),id ∈ e0.nw ↔ st.next ≤ id ∧ id < st.next + k:=fun id=>by rw [hk,List.mem_range'_1]
  rw [hn] at a1 a2 a4
  refine ⟨by omega,fun i e id he hid=>?_,fun i j e f id he hf hid hid'=>?_,fun id h1 h2=>?_⟩
  ·cases i with
   | zero =>
    simp only [List.getElem?_cons_zero,Option.some.injEq] at he
    subst he
    have:=(hin id).1 hid; omega
   | succ i=>have:=a2 i e id (by simpa using he) hid; omega
  ·cases i with
   | zero =>
    simp only [List.getElem?_cons_zero,Option.some.injEq] at he
    subst he
    cases j with
    | zero=>rfl
    | succ j=>have:=(hin id).1 hid; have:=a2 j f id (by simpa using hf) hid'; omega
   | succ i =>
    cases j with
    | zero =>
     simp only [List.getElem?_cons_zero,Option.some.injEq] at hf
     subst hf
     have:=(hin id).1 hid'; have:=a2 i e id (by simpa using he) hid; omega
    | succ j=>rw [a3 i j e f id (by simpa using he) (by simpa using hf) hid hid']
  ·by_cases hlt:id < st.next + k
   ·exact ⟨0,e0,rfl,(hin id).2 ⟨h1,hlt⟩⟩
   ·obtain ⟨i,e,he,hid⟩:=a4 id (by omega) h2
    exact ⟨i + 1,e,by simpa using he,hid⟩
theorem transOpers_get {P:Program} {ops:Array Oper} : ∀ {os:List Oper} {l:List AO},transOpers P ops os = some l → l.length = os.length ∧ ∀ (i:Nat) (ao:AO),l[i]? = some ao → ∃ o,os[i]? = some o ∧ transOper P ops o = some ao
 | [],l,h=>by
  simp [transOpers] at h
  subst h
  exact ⟨rfl,fun i ao h=>by simp at h⟩
 | o :: r,l,h=>by
  simp only [transOpers] at h
  split at h
  ·rename_i a l' h1 h2
   injection h with h
   subst h
   obtain ⟨g1,g2⟩:=transOpers_get h2
   refine ⟨by simp [g1],fun i ao hi=>?_⟩
   cases i with
   | zero =>
    simp only [List.getElem?_cons_zero,Option.some.injEq] at hi
    subst hi
    exact ⟨o,rfl,h1⟩
   | succ i =>
    obtain ⟨o',h3,h4⟩:=g2 i ao (by simpa using hi)
    exact ⟨o',by simpa using h3,h4⟩
  ·cases h
theorem Sim.drawn {n:Nat} {ds:List Deferred} {D:AId → Prop} {m:AId → Option Blk} {ok:Nat → Prop} {env:Env} {heap:Heap} {a:Act} {w:World} (h:Sim n ds D m ok env heap a w):Sim n ds D m ok env heap a { w with drawn:=w.drawn + 1 }:=by
 have hst:Step m w m { w with drawn:=w.drawn + 1 }:=Step.drawnN 1
 refine ⟨⟨fun id o ho=>?_,h.hp.dom,h.hp.inj,h.hp.lt,h.hp.okm,h.hp.fresh,h.hp.glob⟩,fun t p hp=>?_,h.df,h.sz⟩
 ·obtain ⟨B,h1,h2⟩:=h.hp.obj id o ho
  exact ⟨B,h1,h2.step hst (fun _ _ _=>rfl) (fun _ h=>h) (fun _ _=>.inl rfl)⟩
 ·obtain ⟨v,h1,h2⟩:=h.tmp t p hp
  exact ⟨v,h1,h2.step hst (fun _ h=>h) (fun _ _=>.inl rfl)⟩
theorem Run.ok {P:Program} {n:Nat} {ops:Array Oper} {l:List AO} {st st':St} {es:List Eff} (hl:transOpers P ops ops.toList = some l) (h:Run P n l st es st'):RegOk P ops n es st.e st.h (· < st.next):=by
 obtain ⟨g1,g2⟩:=transOpers_get hl
 obtain ⟨b1,b2,b3,b4⟩:=h.nw
 refine ⟨by rw [h.len,g1]; simp,fun i e he=>?_,fun i e id he hid hlt=>?_,b3⟩
 ·obtain ⟨ao,sti,c1,c2,c3,c4⟩:=h.op 0 i e he
  obtain ⟨o,ho,hto⟩:=g2 i ao c1
  rw [Nat.zero_add] at c3 c4
  rw [← c3,← c4]
  exact c2.2 ops i o (by simpa using ho) hto
 ·exact Nat.not_lt.2 (b2 i e id he hid).1 hlt
theorem Inv.start {n:Nat} {ds:List Deferred} {es:List Eff} {st:St} {m:AId → Option Blk} {ok:Nat → Prop} {a:Act} {w:World} (hS:Sim n ds (· < st.next) m ok st.e st.h a w) {S:Nat → Bool} (hf : ∀ i,S i = false):Inv n ds es st.e st.h (· < st.next) m ok w S a w :=
 ⟨(· < st.next),m,by rw [envL_off _ _ _ _ (fun j _=>hf j),heapL_off _ _ _ _ (fun j _=>hf j)]; exact hS,Step.refl m w,Mon.refl _ m,fun id=>⟨.inl,fun h=>h.resolve_right fun ⟨i,e,h1,_⟩=>by rw [hf i] at h1; cases h1⟩⟩
theorem Run.done {P:Program} {n:Nat} {ds:List Deferred} {l:List AO} {st st':St} {es:List Eff} (h:Run P n l st es st') {m:AId → Option Blk} {ok:Nat → Prop} {a:Act} {w w0:World} (hI:Inv n ds es st.e st.h (· < st.next) m ok w0 (fun _=>true) a w) :
  ∃ m',Sim n ds (· < st'.next) m' ok st'.e st'.h a w ∧ Step m w0 m' w ∧ Mon (· < st.next) m m':=by
 obtain ⟨D,m',h1,h2,hM,h3⟩:=hI
 obtain ⟨b1,b2,b3,b4⟩:=h.nw
 have hD:D = (· < st'.next):=funext fun id=>propext ((h3 id).trans ⟨fun hx=>by
  rcases hx with hx | ⟨i,e,_,he,hid⟩
  ·exact Nat.lt_of_lt_of_le hx b1
  ·exact (b2 i e id he hid).2,fun hx=>by
  by_cases hlt:id < st.next
  ·exact .inl hlt
  ·obtain ⟨i,e,he,hid⟩:=b4 id (Nat.le_of_not_lt hlt) hx
   exact .inr ⟨i,e,rfl,he,hid⟩⟩)
 subst hD
 rw [← (h.fin 0).1,← (h.fin 0).2] at h1
 exact ⟨m',h1,h2,hM⟩
def befores:List (List Nat) → List (List Nat) → List (List Nat)
 | [],acc=>acc
 | ds :: r,acc=>befores r (acc ++ [ds ++ ds.flatMap fun d=>acc.getD d []])
def drawOk0 (dirs:List (List Nat)) (es:List Eff):Bool :=
 (List.range es.length).all fun j=>(dirs.getD j []).all (· < j) &&
  (List.range j).all fun i=>((befores dirs []).getD j []).contains i || match es[i]?,es[j]? with
   | some e,some f=>indep e f
   | _,_=>true
def drawOk (dirs:List (List Nat)) (es:List Eff):Bool:=drawOk0 dirs es && rcOk es
theorem befores_ok {ops:Array Oper} : ∀ (ds:List (List Nat)) (acc:List (List Nat)),(∀ j,∀ l,(acc ++ ds)[j]? = some l → dirOf ops j = l ∨ j < acc.length) → (∀ j l i,acc[j]? = some l → i ∈ l → Bf ops i j) →
  ∀ j l i,(befores ds acc)[j]? = some l → i ∈ l → Bf ops i j
 | [],acc,_,h=>h
 | d :: r,acc,hd,h=>by
  refine befores_ok r (acc ++ [d ++ d.flatMap fun x=>acc.getD x []]) (fun j l hl=>?_) (fun j l i hl hi=>?_)
  ·by_cases hj:j < acc.length
   ·exact .inr (by simp; omega)
   ·by_cases hj2:j = acc.length
    ·exact .inr (by simp; omega)
    ·have:(acc ++ d :: r)[j]? = some l:=by
      rw [List.getElem?_append_right (by simp; omega)] at hl
      rw [List.getElem?_append_right (by omega)]
      simp only [List.length_append,List.length_cons,List.length_nil] at hl
      rw [show j - acc.length = (j - (acc.length + (0 + 1))) + 1 by omega,List.getElem?_cons_succ]
      exact hl
     rcases hd j l this with h1 | h1
     ·exact .inl h1
     ·exact absurd h1 hj
  ·by_cases hj:j < acc.length
   ·rw [List.getElem?_append_left hj] at hl
    exact h j l i hl hi
   ·have hj2:j = acc.length:=by
     have:=(List.getElem?_eq_some_iff.1 hl).1
     simp at this; omega
    subst hj2
    rw [List.getElem?_append_right (Nat.le_refl _)] at hl
    simp only [Nat.sub_self,List.getElem?_cons_zero,Option.some.injEq] at hl
    subst hl
    have hdir:dirOf ops acc.length = d:=by
     rcases hd acc.length d (by simp) with h1 | h1
     ·exact h1
     ·omega
    rcases List.mem_append.1 hi with h1 | h1
    ·intro S hS hj
     exact hj i (by rw [hdir]; exact h1)
    ·obtain ⟨x,hx,hi⟩:=List.mem_flatMap.1 h1
     rw [List.getD_eq_getElem?_getD] at hi
     cases ha:acc[x]? with
     | none=>rw [ha] at hi; simp at hi
     | some lx =>
      rw [ha] at hi
      simp at hi
      intro S hS hj
      have hSx:S x = true:=hj x (by rw [hdir]; exact hx)
      exact h x lx i ha hi S hS (hS x hSx)
theorem directs_get {ops:Array Oper} {j:Nat} (hj:j < ops.size):(directs ops)[j]? = some (dirOf ops j):=by
 unfold directs dirOf
 rw [List.getElem?_map,Array.getElem?_toList,Array.getElem?_eq_getElem hj]
 rfl
structure Post (n:Nat) (ds:List Deferred) (k0:Nat) (m:AId → Option Blk) (ok:Nat → Prop) (w:World) (Q:Exit → St → Prop) (e:Exit) (a':Act) (w':World) (st':St) (m':AId → Option Blk):Prop where
 q:Q e st'
 sim:Sim n ds (· < st'.next) m' ok st'.e st'.h a' w'
 step:Step m w m' w'
 mon:Mon (· < k0) m m'
 le:k0 ≤ st'.next
def AWp (P:Program) (n k0:Nat) (c:Code) (Q:Exit → St → Prop) (st:St):Prop :=
 ∀ (rr:Option Nat) (ds:List Deferred) (m:AId → Option Blk) (ok:Nat → Prop) (a:Act) (w:World),k0 ≤ st.next → Sim n ds (· < st.next) m ok st.e st.h a w →
  c.wpIn (Fe rr) 0 P (fun e a' w'=>∃ (st':St) (m':AId → Option Blk),Post n ds k0 m ok w Q e a' w' st' m') a w
def W (P:Program) (n k0:Nat) (ac:AC) (Q:Exit → St → Prop) (st:St):Prop:=∀ c,transC P c = some ac → AWp P n k0 c Q st
theorem W.run {P:Program} {n k0:Nat} {draw:List (List Nat)} {l:List AO} {Q:Exit → St → Prop} {st st':St} {es:List Eff} (hP:P.follows .mixedOrders = true) (hr:Run P n l st es st') (hd:draw = [] ∨ drawOk draw es = true) (hQ:Q .normal st'):W P n k0 (.reg draw l) Q st:=by
 intro c hc rr ds m ok a w hk0 hS
 have hle:=hr.nw.1
 have mon0 : ∀ m',Mon (· < st.next) m m' → Mon (· < k0) m m':=fun m' h id hid=>h id (Nat.lt_of_lt_of_le hid hk0)
 cases c <;> simp only [transC] at hc
 case region id ops dr =>
  obtain ⟨l',hl,he⟩:=Option.map_eq_some_iff.1 hc
  injection he with he1 he2
  subst he2
  have hok:=hr.ok hl
  cases dr with
  | false =>
   refine wpIn_region ?_
   rw [List.range_eq_range']
   refine hok.seq (m0:=m) (ok:=ok) (w0:=w) (fun a' w' hI=>?_) ops.size 0 (by omega) a w (Inv.start hS (by simp))
   obtain ⟨m',h1,h2,h3⟩:=hr.done hI
   exact ⟨st',m',hQ,h1,h2,mon0 m' h3,Nat.le_trans hk0 hle⟩
  | true =>
   simp only [if_true] at he1
   refine wpIn_region_any hP ?_
   by_cases h0:ops.size = 0
   ·have hes:es = []:=List.length_eq_zero_iff.1 (by rw [hok.len,h0])
    rw [h0]
    have hops:ops = #[]:=Array.eq_empty_of_size_eq_zero h0
    subst hops
    subst hes
    cases hr
    ·exact ⟨by simp [Region.ready],st,m,hQ,hS.drawn,Step.drawnN 1,Mon.refl _ m,hk0⟩
   ·have hd':drawOk (directs ops) es = true:=by
     rcases hd with hd | hd
     ·exfalso
      rw [hd] at he1
      have:=congrArg List.length he1
      simp [directs] at this
      exact h0 (by simpa using this)
     ·rw [← he1] at hd; exact hd
    have hrcs:rcOk es = true:=((Bool.and_eq_true _ _).mp hd').2
    replace hd':drawOk0 (directs ops) es = true:=((Bool.and_eq_true _ _).mp hd').1
    have hlen:=hok.len
    have hget : ∀ j,j < es.length → (∀ d ∈ dirOf ops j,d < j) ∧ ∀ i,i < j → Bf ops i j ∨ ∀ e f,es[i]? = some e → es[j]? = some f → indep e f = true:=by
     intro j hj
     have h1:=List.all_eq_true.1 hd' j (List.mem_range.2 hj)
     rw [Bool.and_eq_true] at h1
     obtain ⟨h1,h2⟩:=h1
     rw [List.getD_eq_getElem?_getD,directs_get (by omega)] at h1
     refine ⟨fun d hd=>by simpa using List.all_eq_true.1 h1 d hd,fun i hi=>?_⟩
     have h3:=List.all_eq_true.1 h2 i (List.mem_range.2 hi)
     rw [Bool.or_eq_true] at h3
     rcases h3 with h3 | h3
     ·left
      simp only [List.contains_eq_mem,decide_eq_true_eq] at h3
      rw [List.getD_eq_getElem?_getD] at h3
      cases hb:(befores (directs ops) [])[j]? with
      | none=>rw [hb] at h3; simp at h3
      | some lb =>
       rw [hb] at h3
       refine befores_ok (directs ops) [] (fun j l hl=>?_) (fun j l i h=>by simp at h) j lb i hb (by simpa using h3)
       rw [List.nil_append] at hl
       have hjs:j < ops.size:=by have:=(List.getElem?_eq_some_iff.1 hl).1; simpa [directs] using this
       rw [directs_get hjs] at hl
       exact .inl (by injection hl)
     ·right
      intro e f he hf
      simpa [he,hf] using h3
    refine hok.any (m0:=m) (ok:=ok) (w0:={ w with drawn:=w.drawn + 1 }) (fun j d hd=>?_) (fun i j e f hij he hf=>?_) hrcs (fun a' w' hI=>?_) ops.size (Array.replicate ops.size false) a _ (by simp) ?_ (fun k hk=>?_) (Inv.start hS.drawn (fun i=>by rw [Array.getD_eq_getD_getElem?,Array.getElem?_replicate]; split <;> rfl))
    ·by_cases hj:j < ops.size
     ·exact (hget j (by omega)).1 d hd
     ·simp [dirOf,Array.getElem?_eq_none (Nat.le_of_not_lt hj)] at hd
    ·have:=(List.getElem?_eq_some_iff.1 hf).1
     exact ((hget j this).2 i hij).imp (fun h=>h) fun h=>h e f he hf
    ·obtain ⟨m',h1,h2,h3⟩:=hr.done hI
     exact ⟨st',m',hQ,h1,(Step.drawnN 1).trans h2,mon0 m' h3,Nat.le_trans hk0 hle⟩
    ·exact Nat.le_trans List.countP_le_length (by simp)
    ·rw [Array.getD_eq_getD_getElem?,Array.getElem?_replicate] at hk
     split at hk <;> cases hk
 all_goals first | cases hc | (simp [Option.map_eq_some_iff] at hc; done) | (split at hc <;> first | cases hc | (injection hc with hc; cases hc))
end Go.Proofs.YtakallenldpkiaaGreatDoor.Abs
end
section
set_option linter.unusedVariables false
set_option linter.unusedSimpArgs false
set_option linter.unusedSectionVars false
namespace Go.Proofs.YtakallenldpkiaaGreatDoor.Abs
open Go
variable [DqC]
def AThen (K:St → Prop) (Q:Exit → St → Prop):Exit → St → Prop
 | .normal,s=>K s
 | e,s=>Q e s
def AIn (id:Nat) (Q:Exit → St → Prop):Exit → St → Prop
 | .exit i,s=>if i = id then Q .normal s else Q (.exit i) s
 | e,s=>Q e s
section
variable {P:Program} {n k0:Nat} {ds:List Deferred} {Q:Exit → St → Prop} {st:St}
theorem Post.trans {m m1:AId → Option Blk} {ok:Nat → Prop} {w w1:World} {e:Exit} {a':Act} {w':World} {st':St} {m':AId → Option Blk} (h:Post n ds k0 m1 ok w1 Q e a' w' st' m') (hst:Step m w m1 w1) (hM:Mon (· < k0) m m1):Post n ds k0 m ok w Q e a' w' st' m' :=
 ⟨h.q,h.sim,hst.trans h.step,hM.trans h.mon fun _ h=>h,h.le⟩
theorem W.mono {ac:AC} {Q':Exit → St → Prop} (h:W P n k0 ac Q st) (hq : ∀ e s,Q e s → Q' e s):W P n k0 ac Q' st:=by
 intro c hc rr ds m ok a w hk hS
 refine wpIn_mono (h c hc rr ds m ok a w hk hS) ?_
 rintro e a' w' ⟨st',m',h1⟩
 exact ⟨st',m',hq _ _ h1.q,h1.sim,h1.step,h1.mon,h1.le⟩
theorem W.skip (h:Q .normal st):W P n k0 .skip Q st:=by
 intro c hc rr ds m ok a w hk hS
 cases c <;> simp only [transC] at hc
 case skip=>exact wpIn_skip ⟨st,m,h,hS,Step.refl m w,Mon.refl _ m,hk⟩
 all_goals first | cases hc | (simp [Option.map_eq_some_iff] at hc; done) | (split at hc <;> first | cases hc | (injection hc with hc; cases hc))
theorem W.ret (h:Q .ret st):W P n k0 .ret Q st:=by
 intro c hc rr ds m ok a w hk hS
 cases c <;> simp only [transC] at hc
 case ret=>exact wpIn_ret ⟨st,m,h,hS,Step.refl m w,Mon.refl _ m,hk⟩
 all_goals first | cases hc | (simp [Option.map_eq_some_iff] at hc; done) | (split at hc <;> first | cases hc | (injection hc with hc; cases hc))
theorem W.exit {id:Nat} (h:Q (.exit id) st):W P n k0 (.exit id) Q st:=by
 intro c hc rr ds m ok a w hk hS
 cases c <;> simp only [transC] at hc
 case exit id' =>
  injection hc with hc
  injection hc with hc
  subst hc
  exact wpIn_exit ⟨st,m,h,hS,Step.refl m w,Mon.refl _ m,hk⟩
 all_goals first | cases hc | (simp [Option.map_eq_some_iff] at hc; done) | (split at hc <;> first | cases hc | (injection hc with hc; cases hc))
theorem W.seq {x y:AC} (h:W P n k0 x (AThen (W P n k0 y Q) Q) st):W P n k0 (.seq x y) Q st:=by
 intro c hc rr ds m ok a w hk hS
 cases c <;> simp only [transC] at hc
 case seq c1 c2 =>
  split at hc
  ·rename_i x' y' h1 h2
   injection hc with hc
   injection hc with e1 e2
   subst e1 e2
   refine wpIn_seq (wpIn_mono (h c1 h1 rr ds m ok a w hk hS) ?_)
   rintro e a' w' ⟨st',m',hp⟩
   cases e with
   | normal =>
    refine wpIn_mono (hp.q c2 h2 rr ds m' ok a' w' hp.le hp.sim) ?_
    rintro e2 a2 w2 ⟨st2,m2,hp2⟩
    exact ⟨st2,m2,hp2.trans hp.step hp.mon⟩
   | exit id=>exact ⟨st',m',hp.q,hp.sim,hp.step,hp.mon,hp.le⟩
   | goto id=>exact ⟨st',m',hp.q,hp.sim,hp.step,hp.mon,hp.le⟩
   | ret=>exact ⟨st',m',hp.q,hp.sim,hp.step,hp.mon,hp.le⟩
   | panic id=>exact ⟨st',m',hp.q,hp.sim,hp.step,hp.mon,hp.le⟩
   | outgrown=>exact ⟨st',m',hp.q,hp.sim,hp.step,hp.mon,hp.le⟩
  ·cases hc
 all_goals first | cases hc | (simp [Option.map_eq_some_iff] at hc; done) | (split at hc <;> first | cases hc | (injection hc with hc; cases hc))
theorem W.cond {z:AX} {x y:AC} {b:Bool} (hz:evalX st.env z = some (.bool b)) (ht:b = true → W P n k0 x Q st) (hf:b = false → W P n k0 y Q st):W P n k0 (.cond z x y) Q st:=by
 intro c hc rr ds m ok a w hk hS
 cases c <;> simp only [transC] at hc
 case cond c0 c1 c2 =>
  split at hc
  ·rename_i x' y' h1 h2
   injection hc with hc
   injection hc with e0 e1 e2
   subst e0 e1 e2
   have hv:=evalX_repT (P:=P) hS hz fun t _=>rfl
   refine wpIn_cond_split (rep_bool hv) (fun h=>ht h c1 h1 rr ds m ok a w hk hS) (fun h=>hf h c2 h2 rr ds m ok a w hk hS)
  ·cases hc
 all_goals first | cases hc | (simp [Option.map_eq_some_iff] at hc; done) | (split at hc <;> first | cases hc | (injection hc with hc; cases hc))
theorem W.condU {z:AX} {x y:AC} (hz:evalX st.env z = some .anyb) (ht:W P n k0 x Q st) (hf:W P n k0 y Q st):W P n k0 (.cond z x y) Q st:=by
 intro c hc rr ds m ok a w hk hS
 cases c <;> simp only [transC] at hc
 case cond c0 c1 c2 =>
  split at hc
  ·rename_i x' y' h1 h2
   injection hc with hc
   injection hc with e0 e1 e2
   subst e0 e1 e2
   have hv:=evalX_repT (P:=P) hS hz fun t _=>rfl
   obtain ⟨b,hb⟩ : ∃ b,a.eval c0 = .bool b:=by
    generalize a.eval c0 = X at hv
    cases hv
    exact ⟨_,rfl⟩
   refine wpIn_cond_split hb (fun h=>ht c1 h1 rr ds m ok a w hk hS) (fun h=>hf c2 h2 rr ds m ok a w hk hS)
  ·cases hc
 all_goals first | cases hc | (simp [Option.map_eq_some_iff] at hc; done) | (split at hc <;> first | cases hc | (injection hc with hc; cases hc))
theorem W.block {id:Nat} {x:AC} (h:W P n k0 x (AIn id Q) st):W P n k0 (.block id x) Q st:=by
 intro c hc rr ds m ok a w hk hS
 cases c <;> simp only [transC] at hc
 case block id' c1 =>
  obtain ⟨x',h1,he⟩:=Option.map_eq_some_iff.1 hc
  injection he with e1 e2
  subst e1 e2
  refine wpIn_block (wpIn_mono (h c1 h1 rr ds m ok a w hk hS) ?_)
  rintro e a' w' ⟨st',m',hp⟩
  cases e with
  | exit i =>
   have hq:=hp.q
   simp only [AIn] at hq
   simp only [Exit.inBlock]
   split
   ·rename_i hi; rw [if_pos hi] at hq; exact ⟨st',m',hq,hp.sim,hp.step,hp.mon,hp.le⟩
   ·rename_i hi; rw [if_neg hi] at hq; exact ⟨st',m',hq,hp.sim,hp.step,hp.mon,hp.le⟩
  | normal=>exact ⟨st',m',hp.q,hp.sim,hp.step,hp.mon,hp.le⟩
  | goto id=>exact ⟨st',m',hp.q,hp.sim,hp.step,hp.mon,hp.le⟩
  | ret=>exact ⟨st',m',hp.q,hp.sim,hp.step,hp.mon,hp.le⟩
  | panic id=>exact ⟨st',m',hp.q,hp.sim,hp.step,hp.mon,hp.le⟩
  | outgrown=>exact ⟨st',m',hp.q,hp.sim,hp.step,hp.mon,hp.le⟩
 all_goals first | cases hc | (simp [Option.map_eq_some_iff] at hc; done) | (split at hc <;> first | cases hc | (injection hc with hc; cases hc))
theorem W.loop {x:AC} (I:Nat → St → Prop) (k:Nat) (h0:I k st) (round : ∀ k s,I k s → W P n k0 x (AThen (fun s'=>∃ k',k' < k ∧ I k' s') Q) s):W P n k0 (.loop x) Q st:=by
 intro c hc rr ds m ok a w hk hS
 cases c <;> simp only [transC] at hc
 case loop c1 =>
  obtain ⟨x',h1,he⟩:=Option.map_eq_some_iff.1 hc
  injection he with e1
  subst e1
  refine wpIn_loop_ghost (fun k a' w'=>∃ (st':St) (m':AId → Option Blk),Post n ds k0 m ok w (fun _ s=>I k s) .normal a' w' st' m') k ⟨st,m,h0,hS,Step.refl m w,Mon.refl _ m,hk⟩ ?_
  rintro k a' w' ⟨st',m',hp⟩
  refine wpIn_mono (round k st' hp.q c1 h1 rr ds m' ok a' w' hp.le hp.sim) ?_
  rintro e a2 w2 ⟨st2,m2,hp2⟩
  have hp3:=hp2.trans hp.step hp.mon
  cases e with
  | normal =>
   obtain ⟨k',hlt,hI⟩:=hp3.q
   exact ⟨k',hlt,st2,m2,hI,hp3.sim,hp3.step,hp3.mon,hp3.le⟩
  | exit id=>exact ⟨st2,m2,hp3.q,hp3.sim,hp3.step,hp3.mon,hp3.le⟩
  | goto id=>exact ⟨st2,m2,hp3.q,hp3.sim,hp3.step,hp3.mon,hp3.le⟩
  | ret=>exact ⟨st2,m2,hp3.q,hp3.sim,hp3.step,hp3.mon,hp3.le⟩
  | panic id=>exact ⟨st2,m2,hp3.q,hp3.sim,hp3.step,hp3.mon,hp3.le⟩
  | outgrown=>exact ⟨st2,m2,hp3.q,hp3.sim,hp3.step,hp3.mon,hp3.le⟩
 all_goals first | cases hc | (simp [Option.map_eq_some_iff] at hc; done) | (split at hc <;> first | cases hc | (injection hc with hc; cases hc))
def RG (P:Program) (n:Nat) (draw:List (List Nat)) (Q:St → Prop) (l:List AO) (acc:List Eff) (st:St):Prop :=
 ∃ (es:List Eff) (st':St),Run P n l st es st' ∧ (draw = [] ∨ drawOk draw (acc ++ es) = true) ∧ Q st'
theorem W.reg {draw:List (List Nat)} {l:List AO} (hP:P.follows .mixedOrders = true) (h:RG P n draw (Q .normal) l [] st):W P n k0 (.reg draw l) Q st:=by
 obtain ⟨es,st',h1,h2,h3⟩:=h
 exact W.run hP h1 h2 h3
theorem RG.done {draw:List (List Nat)} {K:St → Prop} {acc:List Eff} (hd:draw = [] ∨ drawOk draw acc = true) (h:K st):RG P n draw K [] acc st :=
 ⟨[],st,.nil,by rw [List.append_nil]; exact hd,h⟩
theorem RG.eff {draw:List (List Nat)} {K:St → Prop} {acc:List Eff} {ao:AO} {l:List AO} {e:Eff} (he:EffOk P n st ao e) (h:RG P n draw K l (acc ++ [e]) (st.app e)):RG P n draw K (ao :: l) acc st:=by
 obtain ⟨es,st',h1,h2,h3⟩:=h
 exact ⟨e :: es,st',.cons he h1,by rw [List.append_assoc] at h2; exact h2,h3⟩
theorem RG.op {draw:List (List Nat)} {K:St → Prop} {acc:List Eff} {ao:AO} {l:List AO} {e:Eff} (he:opEff n st ao = some e) (h:RG P n draw K l (acc ++ [e]) (st.app e)):RG P n draw K (ao :: l) acc st :=
 RG.eff (opEff_ok he) h
def Conv (k0:Nat) (st st':St):Prop:=∀ (n:Nat) (ds:List Deferred) (m:AId → Option Blk) (ok:Nat → Prop) (a:Act) (w:World),k0 ≤ st.next → Sim n ds (· < st.next) m ok st.e st.h a w →
 ∃ m',Sim n ds (· < st'.next) m' ok st'.e st'.h a w ∧ Step m w m' w ∧ Mon (· < k0) m m' ∧ k0 ≤ st'.next
theorem W.conv {ac:AC} {st':St} (hc:Conv k0 st st') (h:W P n k0 ac Q st'):W P n k0 ac Q st:=by
 intro c hcc rr ds m ok a w hk hS
 obtain ⟨m',h1,h2,h3,h4⟩:=hc n ds m ok a w hk hS
 refine wpIn_mono (h c hcc rr ds m' ok a w h4 h1) ?_
 rintro e a2 w2 ⟨st2,m2,hp2⟩
 exact ⟨st2,m2,hp2.trans h2 h3⟩
theorem Conv.trans {st1 st2:St} (h:Conv k0 st st1) (k:Conv k0 st1 st2):Conv k0 st st2:=by
 intro n ds m ok a w hk hS
 obtain ⟨m1,a1,a2,a3,a4⟩:=h n ds m ok a w hk hS
 obtain ⟨m2,b1,b2,b3,b4⟩:=k n ds m1 ok a w a4 a1
 exact ⟨m2,b1,a2.trans b2,a3.trans b3 fun _ h=>h,b4⟩
theorem Conv.env {env:List (Nat × PVal)} (h : ∀ t p,env.lookup t = some p → st.env.lookup t = some p):Conv k0 st { st with env }:=by
 intro n ds m ok a w hk hS
 exact ⟨m,⟨hS.hp,fun t p hp=>hS.tmp t p (h t p hp),hS.df,hS.sz⟩,Step.refl m w,Mon.refl _ m,hk⟩
def pickE (env:List (Nat × PVal)):List Nat → List (Nat × PVal)
 | []=>[]
 | t :: r=>match env.lookup t with
  | some p=>(t,p) :: pickE env r
  | none=>pickE env r
theorem pickE_lookup (env:List (Nat × PVal)) : ∀ (ts:List Nat) (t:Nat) (p:PVal),(pickE env ts).lookup t = some p → env.lookup t = some p
 | [],t,p,h=>by simp [pickE] at h
 | t' :: r,t,p,h=>by
  unfold pickE at h
  split at h
  ·rename_i q hq
   by_cases ht:t = t'
   ·subst ht
    simp [List.lookup] at h
    rw [hq,h]
   ·have:(t == t') = false:=by simpa using ht
    simp only [List.lookup,this] at h
    exact pickE_lookup env r t p h
  ·exact pickE_lookup env r t p h
theorem Conv.pick (ts:List Nat):Conv k0 st { st with env:=pickE st.env ts }:=Conv.env fun t p h=>pickE_lookup _ ts t p h
theorem Conv.heap {heap:List (AId × AObj)} (h : ∀ i o,heap.lookup i = some o → st.heap.lookup i = some o):Conv k0 st { st with heap }:=by
 intro n ds m ok a w hk hS
 exact ⟨m,⟨⟨fun id o ho=>hS.hp.obj id o (h id o ho),hS.hp.dom,hS.hp.inj,hS.hp.lt,hS.hp.okm,hS.hp.fresh,hS.hp.glob⟩,hS.tmp,hS.df,hS.sz⟩,Step.refl m w,Mon.refl _ m,hk⟩
end
end Go.Proofs.YtakallenldpkiaaGreatDoor.Abs
end
