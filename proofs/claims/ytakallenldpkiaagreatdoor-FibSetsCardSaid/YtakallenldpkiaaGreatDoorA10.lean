/- Regions: what their operations leave is the same in whatever order their edges allow. Generic over any program. -/
import Derived.OrdersIn
import Derived.Test.YtakallenldpkiaaGreatDoorA9
set_option linter.unusedVariables false
set_option linter.unusedSimpArgs false
set_option linter.unusedSectionVars false
namespace Go.Proofs.YtakallenldpkiaaGreatDoor.Abs
open Go
variable [DqC]
abbrev Env:=Nat → Option PVal
abbrev Heap:=AId → Option AObj
structure Sim (n:Nat) (ds:List Deferred) (D:AId → Prop) (m:AId → Option Blk) (ok:Nat → Prop) (env:Env) (heap:Heap) (a:Act) (w:World):Prop where
  hp:SimH D m ok heap w
  tmp : ∀ (t:Nat) (p:PVal),env t = some p → ∃ v,a.tmps[t]? = some v ∧ Rep w (okn ok m) D m false p v
  df:a.defers = ds
  sz:a.tmps.size = n
structure Eff where
  rt:List Nat
  wt:Option (Nat × PVal)
  rh:List AId
  wh:List (AId × Option AObj)
  nw:List AId
  rc:List (AId × Nat):=[]
  kc:List (AId × Nat):=[]
def cellAt (off:Nat):Option AObj → Option PVal
  | some (.box cs)=>cs[off]?
  | _=>none
def eapp (wt:Option (Nat × PVal)) (env:Env):Env:=fun t=>match wt with
  | some (d,p)=>if t = d then some p else env t
  | none=>env t
def Mon (D:AId → Prop) (m m':AId → Option Blk):Prop:=∀ id,D id → m' id = m id ∨ m' id = none
theorem Mon.refl (D:AId → Prop) (m:AId → Option Blk):Mon D m m:=fun _ _=>.inl rfl
theorem Mon.trans {D D':AId → Prop} {m m1 m2:AId → Option Blk} (h:Mon D m m1) (k:Mon D' m1 m2) (hD : ∀ id,D id → D' id):Mon D m m2:=fun id hd=>by
  rcases k id (hD id hd) with h2 | h2
  · rcases h id hd with h1 | h1
    · exact .inl (h2.trans h1)
    · exact .inr (h2.trans h1)
  · exact .inr h2
def Fe (r:Option Nat):Fence:={ Fence.wide with round:=r }
def OpSem (P:Program) (ops:Array Oper) (i n:Nat) (e:Eff) (env0:Env) (heap0:Heap):Prop :=
  (∀ x ∈ e.kc,cellAt x.2 (happ e.wh heap0 x.1) = cellAt x.2 (heap0 x.1)) ∧ ∀ (rr:Option Nat) (ds:List Deferred) (D:AId → Prop) (m:AId → Option Blk) (ok:Nat → Prop) (env:Env) (heap:Heap) (a:Act) (w:World) (Q:Exit → Act → World → Prop) (K:Act → World → Prop),
    Sim n ds D m ok env heap a w → (∀ t ∈ e.rt,env t = env0 t) → (∀ id ∈ e.rh,heap id = heap0 id) → (∀ x ∈ e.rc,cellAt x.2 (heap x.1) = cellAt x.2 (heap0 x.1)) → (∀ id ∈ e.nw,¬ D id) →
    (∀ (D':AId → Prop) (m':AId → Option Blk) (a':Act) (w':World),Sim n ds D' m' ok (eapp e.wt env) (happ e.wh heap) a' w' → Step m w m' w' → Mon D m m' → (∀ id,D' id ↔ D id ∨ id ∈ e.nw) → K a' w') → wpOpIn (Fe rr) 0 P ops Q i K a w
def envL:List Eff → (Nat → Bool) → Nat → Env → Env
  | [],_,_,env=>env
  | e :: r,L,k,env=>envL r L (k + 1) (if L k then eapp e.wt env else env)
def heapL:List Eff → (Nat → Bool) → Nat → Heap → Heap
  | [],_,_,h=>h
  | e :: r,L,k,h=>heapL r L (k + 1) (if L k then happ e.wh h else h)
def writesT (e:Eff) (t:Nat):Prop:=∃ p,e.wt = some (t,p)
def writesH (e:Eff) (id:AId):Prop:=id ∈ e.wh.map (·.1)
theorem eapp_of_not {e:Eff} {t:Nat} (h : ¬ writesT e t) (env:Env):eapp e.wt env t = env t:=by
  unfold eapp
  split
  · rename_i d p he
    by_cases ht:t = d
    · exact absurd ⟨p,by rw [he,ht]⟩ h
    · simp [ht]
  · rfl
theorem eapp_of {e:Eff} {t:Nat} (h:writesT e t) (env env':Env):eapp e.wt env t = eapp e.wt env' t:=by
  obtain ⟨p,hp⟩:=h
  simp [eapp,hp]
theorem lookup_none {wh:List (AId × Option AObj)} {id:AId} (h : ¬ id ∈ wh.map (·.1)):wh.lookup id = none:=by
  induction wh with
  | nil=>rfl
  | cons x r ih =>
    simp only [List.map_cons,List.mem_cons,not_or] at h
    have:(id == x.1) = false:=by simpa using h.1
    simp [List.lookup,this,ih h.2]
theorem lookup_some {wh:List (AId × Option AObj)} {id:AId} (h:id ∈ wh.map (·.1)) : ∃ o,wh.lookup id = some o:=by
  induction wh with
  | nil=>simp at h
  | cons x r ih =>
    by_cases hx:id = x.1
    · exact ⟨x.2,by simp [List.lookup,hx]⟩
    · have:(id == x.1) = false:=by simpa using hx
      simp only [List.map_cons,List.mem_cons] at h
      obtain ⟨o,ho⟩:=ih (h.resolve_left hx)
      exact ⟨o,by simp [List.lookup,this,ho]⟩
theorem happ_of_not {e:Eff} {id:AId} (h : ¬ writesH e id) (hp:Heap):happ e.wh hp id = hp id:=by simp [happ,lookup_none h]
theorem happ_of {e:Eff} {id:AId} (h:writesH e id) (hp hp':Heap):happ e.wh hp id = happ e.wh hp' id:=by
  obtain ⟨o,ho⟩:=lookup_some h
  simp [happ,ho]
theorem envL_agree : ∀ (es:List Eff) (L L':Nat → Bool) (k t:Nat) (env env':Env),env t = env' t → (∀ j e,es[j]? = some e → writesT e t → L (k + j) = L' (k + j)) → envL es L k env t = envL es L' k env' t
  | [],_,_,_,_,_,_,h,_=>h
  | e :: r,L,L',k,t,env,env',h,hw=>by
    refine envL_agree r L L' (k + 1) t _ _ ?_ (fun j e' he' hw'=>by have:=hw (j + 1) e' (by simpa using he') hw'; rwa [show k + (j + 1) = k + 1 + j by omega] at this)
    by_cases hwt:writesT e t
    · have:=hw 0 e rfl hwt
      simp only [Nat.add_zero] at this
      rw [← this]
      by_cases hL:L k = true
      · simp only [hL,if_true]; exact eapp_of hwt _ _
      · simp only [hL,if_false]; exact h
    · have e1:(if L k = true then eapp e.wt env else env) t = env t:=by split; exact eapp_of_not hwt _; rfl
      have e2:(if L' k = true then eapp e.wt env' else env') t = env' t:=by split; exact eapp_of_not hwt _; rfl
      rw [e1,e2,h]
theorem heapL_agree : ∀ (es:List Eff) (L L':Nat → Bool) (k:Nat) (id:AId) (env env':Heap),env id = env' id → (∀ j e,es[j]? = some e → writesH e id → L (k + j) = L' (k + j)) → heapL es L k env id = heapL es L' k env' id
  | [],_,_,_,_,_,_,h,_=>h
  | e :: r,L,L',k,t,env,env',h,hw=>by
    refine heapL_agree r L L' (k + 1) t _ _ ?_ (fun j e' he' hw'=>by have:=hw (j + 1) e' (by simpa using he') hw'; rwa [show k + (j + 1) = k + 1 + j by omega] at this)
    by_cases hwt:writesH e t
    · have:=hw 0 e rfl hwt
      simp only [Nat.add_zero] at this
      rw [← this]
      by_cases hL:L k = true
      · simp only [hL,if_true]; exact happ_of hwt _ _
      · simp only [hL,if_false]; exact h
    · have e1:(if L k = true then happ e.wh env else env) t = env t:=by split; exact happ_of_not hwt _; rfl
      have e2:(if L' k = true then happ e.wh env' else env') t = env' t:=by split; exact happ_of_not hwt _; rfl
      rw [e1,e2,h]
theorem envL_insert : ∀ (es:List Eff) (L L':Nat → Bool) (k i:Nat) (ei:Eff) (env:Env),es[i]? = some ei → L (k + i) = false → (∀ j,L' j = if j = k + i then true else L j) →
    (∀ j e t,i < j → es[j]? = some e → L (k + j) = true → writesT ei t → ¬ writesT e t) → envL es L' k env = eapp ei.wt (envL es L k env)
  | e :: r,L,L',k,0,ei,env,hi,hL,hL',hw=>by
    simp at hi
    subst hi
    simp only [Nat.add_zero] at hL hL'
    have h1:L' k = true:=by rw [hL']; simp
    simp only [envL,h1,hL,if_true,Bool.false_eq_true,if_false]
    funext t
    have hLL : ∀ j e',r[j]? = some e' → L' (k + 1 + j) = L (k + 1 + j):=fun j e' _=>by rw [hL']; rw [if_neg (by omega)]
    by_cases hwt:writesT e t
    · have e1:envL r L' (k + 1) (eapp e.wt env) t = envL r (fun _=>false) (k + 1) (eapp e.wt env) t:=by
        refine envL_agree r _ _ _ t _ _ rfl (fun j e' he' hw'=>?_)
        rw [hLL j e' he']
        cases hLj:L (k + 1 + j) with
        | false=>rfl
        | true=>exact absurd hw' (hw (j + 1) e' t (by omega) (by simpa using he') (by rw [show k + (j + 1) = k + 1 + j by omega]; exact hLj) hwt)
      have e2 : ∀ (r:List Eff) k env,envL r (fun _=>false) k env = env:=by
        intro r
        induction r with
        | nil=>intro k env; rfl
        | cons x r ih=>intro k env; simp [envL,ih]
      rw [e1,e2]
      exact eapp_of hwt _ _
    · rw [eapp_of_not hwt]
      exact envL_agree r _ _ _ t _ _ (eapp_of_not hwt _) (fun j e' he' _=>hLL j e' he')
  | e :: r,L,L',k,i + 1,ei,env,hi,hL,hL',hw=>by
    simp only [envL]
    have hk:L' k = L k:=by rw [hL',if_neg (by omega)]
    rw [hk]
    exact envL_insert r L L' (k + 1) i ei _ (by simpa using hi) (by rw [show k + 1 + i = k + (i + 1) by omega]; exact hL) (fun j=>by rw [hL' j,show k + 1 + i = k + (i + 1) by omega])
      (fun j e' t hij he' hLj hwt=>hw (j + 1) e' t (by omega) (by simpa using he') (by rw [show k + (j + 1) = k + 1 + j by omega]; exact hLj) hwt)
  | [],_,_,_,i,_,_,hi,_,_,_=>by simp at hi
theorem heapL_insert : ∀ (es:List Eff) (L L':Nat → Bool) (k i:Nat) (ei:Eff) (env:Heap),es[i]? = some ei → L (k + i) = false → (∀ j,L' j = if j = k + i then true else L j) →
    (∀ j e t,i < j → es[j]? = some e → L (k + j) = true → writesH ei t → ¬ writesH e t) → heapL es L' k env = happ ei.wh (heapL es L k env)
  | e :: r,L,L',k,0,ei,env,hi,hL,hL',hw=>by
    simp at hi
    subst hi
    simp only [Nat.add_zero] at hL hL'
    have h1:L' k = true:=by rw [hL']; simp
    simp only [heapL,h1,hL,if_true,Bool.false_eq_true,if_false]
    funext t
    have hLL : ∀ j e',r[j]? = some e' → L' (k + 1 + j) = L (k + 1 + j):=fun j e' _=>by rw [hL']; rw [if_neg (by omega)]
    by_cases hwt:writesH e t
    · have e1:heapL r L' (k + 1) (happ e.wh env) t = heapL r (fun _=>false) (k + 1) (happ e.wh env) t:=by
        refine heapL_agree r _ _ _ t _ _ rfl (fun j e' he' hw'=>?_)
        rw [hLL j e' he']
        cases hLj:L (k + 1 + j) with
        | false=>rfl
        | true=>exact absurd hw' (hw (j + 1) e' t (by omega) (by simpa using he') (by rw [show k + (j + 1) = k + 1 + j by omega]; exact hLj) hwt)
      have e2 : ∀ (r:List Eff) k env,heapL r (fun _=>false) k env = env:=by
        intro r
        induction r with
        | nil=>intro k env; rfl
        | cons x r ih=>intro k env; simp [heapL,ih]
      rw [e1,e2]
      exact happ_of hwt _ _
    · rw [happ_of_not hwt]
      exact heapL_agree r _ _ _ t _ _ (happ_of_not hwt _) (fun j e' he' _=>hLL j e' he')
  | e :: r,L,L',k,i + 1,ei,env,hi,hL,hL',hw=>by
    simp only [heapL]
    have hk:L' k = L k:=by rw [hL',if_neg (by omega)]
    rw [hk]
    exact heapL_insert r L L' (k + 1) i ei _ (by simpa using hi) (by rw [show k + 1 + i = k + (i + 1) by omega]; exact hL) (fun j=>by rw [hL' j,show k + 1 + i = k + (i + 1) by omega])
      (fun j e' t hij he' hLj hwt=>hw (j + 1) e' t (by omega) (by simpa using he') (by rw [show k + (j + 1) = k + 1 + j by omega]; exact hLj) hwt)
  | [],_,_,_,i,_,_,hi,_,_,_=>by simp at hi
def rcOk (es:List Eff):Bool:=es.all fun e=>e.rc.all fun x=>es.all fun f=>!(f.wh.map (·.1)).contains x.1 || f.kc.contains x
theorem heapL_cell {off:Nat} {id:AId} {c:Option PVal} : ∀ (es:List Eff) (L:Nat → Bool) (k:Nat) (h:Heap),cellAt off (h id) = c → (∀ j f,es[j]? = some f → L (k + j) = true → writesH f id → ∀ h',cellAt off (happ f.wh h' id) = c) → cellAt off (heapL es L k h id) = c
  | [],_,_,_,h,_=>h
  | e :: r,L,k,h,h0,hw=>by
    refine heapL_cell r L (k + 1) _ ?_ (fun j f hf hL=>hw (j + 1) f (by simpa using hf) (by rw [← hL]; congr 1; omega))
    by_cases hL:L k = true
    · simp only [hL,if_true]
      by_cases hwt:writesH e id
      · exact hw 0 e rfl (by simpa using hL) hwt h
      · rw [happ_of_not hwt]; exact h0
    · simp only [hL,if_false]; exact h0
def indep (e f:Eff):Bool :=
  (match e.wt with
   | some (d,_)=>!f.rt.contains d && (match f.wt with | some (d',_)=>d != d' | none=>true)
   | none=>true) &&
  (match f.wt with
   | some (d,_)=>!e.rt.contains d
   | none=>true) &&
  e.wh.all (fun x=>!f.rh.contains x.1 && !(f.wh.map (·.1)).contains x.1) && f.wh.all (fun x=>!e.rh.contains x.1)
theorem indep_spec {e f:Eff} (h:indep e f = true):(∀ t,writesT e t → t ∉ f.rt ∧ ¬ writesT f t) ∧ (∀ t,writesT f t → t ∉ e.rt) ∧ (∀ id,writesH e id → id ∉ f.rh ∧ ¬ writesH f id) ∧ (∀ id,writesH f id → id ∉ e.rh):=by
  simp only [indep,Bool.and_eq_true] at h
  obtain ⟨⟨⟨h1,h2⟩,h3⟩,h4⟩:=h
  refine ⟨fun t ⟨p,hp⟩=>?_,fun t ⟨p,hp⟩=>?_,fun id hid=>?_,fun id hid=>?_⟩
  · rw [hp] at h1
    simp only [Bool.and_eq_true] at h1
    refine ⟨by simpa using h1.1,fun ⟨q,hq⟩=>?_⟩
    rw [hq] at h1
    simp at h1
  · rw [hp] at h2
    simpa using h2
  · obtain ⟨x,hx,rfl⟩:=List.mem_map.1 hid
    have:=List.all_eq_true.1 h3 x hx
    simp only [Bool.and_eq_true] at this
    refine ⟨by simpa using this.1,fun hw=>?_⟩
    have h:=this.2
    unfold writesH at hw
    simp only [Bool.not_eq_true',List.contains_eq_mem,decide_eq_false_iff_not] at h
    exact h hw
  · obtain ⟨x,hx,rfl⟩:=List.mem_map.1 hid
    have:=List.all_eq_true.1 h4 x hx
    simpa using this
end Go.Proofs.YtakallenldpkiaaGreatDoor.Abs
