/- States, and what the code of the abstract machine does to them. Generic over any program. -/
import Derived.Test.YtakallenldpkiaaGreatDoorA11
set_option linter.unusedVariables false
set_option linter.unusedSimpArgs false
set_option linter.unusedSectionVars false
namespace Go.Proofs.YtakallenldpkiaaGreatDoor.Abs
open Go
variable [DqC]
theorem elems_congr {h h':Heap} {p:PVal} {sz:Nat} {es:List (List PVal)} {rh:List AId} (hc:elems h p = some (sz,es,rh)) (hh : ∀ id ∈ rh,h' id = h id):elems h' p = some (sz,es,rh):=by
  cases p <;> simp only [elems] at hc ⊢
  case ro=>exact hc
  case own id sz' lo n =>
    cases ho:h id with
    | none=>simp [ho] at hc
    | some ob =>
      cases ob <;> simp only [ho] at hc
      case row =>
        split at hc
        · rename_i hcond
          have hc':=hc
          simp only [Option.some.injEq,Prod.mk.injEq] at hc
          obtain ⟨_,_,h3⟩:=hc
          have:=hh id (by rw [← h3]; simp)
          rw [this,ho]
          simp only [hcond,and_self,if_true]
          exact hc'
        · cases hc
      all_goals cases hc
  all_goals cases hc
theorem elemsU_congr {h h':Heap} {p:PVal} {sz k:Nat} {es:List (List PVal)} {rh:List AId} (hc:elemsU h k p = some (sz,es,rh)) (hh : ∀ id ∈ rh,h' id = h id):elemsU h' k p = some (sz,es,rh) ∧ elems h' p = elems h p:=by
  cases p <;> simp only [elemsU,elems] at hc ⊢ <;> try (cases hc; done)
  case ro=>exact ⟨hc,trivial⟩
  case own id sz' lo n =>
    have hid:id ∈ rh:=by
      (repeat' split at hc) <;> first
        | (cases hc; done)
        | (simp only [Option.some.injEq,Prod.mk.injEq] at hc; rw [← hc.2.2]; simp)
    rw [hh id hid]
    exact ⟨hc,rfl⟩
theorem coreAppF_rh {nx sz ty bytes id sz1 lo n sz1' ty1:Nat} {es:List (List PVal)} {sz2:Nat} {es2:List (List PVal)} {rh2:List AId} {r:R} (hc:coreAppF nx sz ty bytes id sz1 lo n sz1' ty1 es sz2 es2 rh2 = some r):r.rh = id :: rh2:=by
  unfold coreAppF at hc
  (repeat' split at hc) <;> first
    | (cases hc; done)
    | (injection hc with hc; subst hc; rfl)
theorem core_congr {op:AOp} {xs:List PVal} {h h':Heap} {nx:AId} {r:R} (hc:core op xs h nx = some r) (hh : ∀ id ∈ r.rh,h' id = h id):core op xs h' nx = some r:=by
  unfold core at hc ⊢
  split at hc
  all_goals first
    | exact hc
    | skip
  all_goals first
    | (rw [hh _ (by
        (repeat' split at hc) <;> first
          | (cases hc; done)
          | (obtain ⟨_,_,rfl⟩:=Option.map_eq_some_iff.1 hc; simp; done)
          | (injection hc with hc; subst hc; simp; done))]; exact hc)
    | (unfold coreQ at hc ⊢
       split at hc
       all_goals first
         | exact hc
         | (rw [hh _ (by
             (repeat' split at hc) <;> first
               | (cases hc; done)
               | (injection hc with hc; subst hc; simp; done))]
            exact hc))
    | (unfold coreLF at hc ⊢
       split at hc
       · rw [hh _ (by
           (repeat' split at hc) <;> first
             | (cases hc; done)
             | (injection hc with hc; subst hc; simp; done))]
         exact hc
       · cases hc)
    | (unfold coreSF at hc ⊢
       split at hc
       · rw [hh _ (by
           (repeat' split at hc) <;> first
             | (cases hc; done)
             | (injection hc with hc; subst hc; simp; done))]
         exact hc
       · cases hc)
    | (unfold coreNil at hc ⊢
       split at hc
       all_goals first
         | exact hc
         | (rw [hh _ (by
             (repeat' split at hc) <;> first
               | (cases hc; done)
               | (injection hc with hc; subst hc; simp; done))]
            exact hc))
    | (unfold coreDel at hc ⊢
       split at hc
       · rw [hh _ (by
           (repeat' split at hc) <;> first
             | (cases hc; done)
             | (injection hc with hc; subst hc; simp; done))]
         exact hc
       · cases hc)
    | skip
  ·
    unfold coreBin at hc ⊢
    split at hc
    all_goals first
      | exact hc
      | (rw [hh _ (by
          (repeat' split at hc) <;> first
            | (cases hc; done)
            | (injection hc with hc; subst hc; simp; done))]; exact hc)
      | trace_state
  ·
    rename_i x
    cases he:elems h x with
    | none =>
      simp only [he] at hc
      split at hc
      · exact hc
      · cases hc
    | some y =>
      obtain ⟨sz,es,rh⟩:=y
      simp only [he] at hc
      cases hb:bytesP es with
      | none=>simp [hb] at hc
      | some xs =>
        simp only [hb] at hc
        by_cases hs:sz = 1
        · rw [if_pos hs] at hc
          injection hc with hc
          subst hc
          rw [elems_congr he hh]
          simp only [hb]
          rw [if_pos hs]
        · rw [if_neg hs] at hc
          cases hc
  ·
    rename_i sz id sz1 lo n x
    cases ho:h id with
    | none=>simp [ho] at hc
    | some ob =>
      cases ob <;> simp only [ho] at hc <;> try (cases hc; done)
      all_goals
        cases he2:elemsU h n x with
        | none=>simp [he2] at hc
        | some y =>
          obtain ⟨sz2,es2,rh2⟩:=y
          simp only [he2] at hc
          split at hc
          · rename_i hcond
            injection hc with hc
            subst hc
            rw [hh id (by simp),ho]
            simp only
            rw [(elemsU_congr he2 (fun i hi=>hh i (List.mem_cons_of_mem _ hi))).1]
            simp only
            rw [if_pos hcond]
          · cases hc
  ·
    rename_i sz ty bytes s x
    cases he:elems h x with
    | none =>
      simp only [he] at hc
      cases s <;> simp only at hc <;> try (cases hc; done)
      rename_i id sz1 lo n
      cases ho:h id with
      | none=>simp [ho] at hc
      | some ob =>
        cases ob <;> simp only [ho] at hc <;> try (cases hc; done)
        cases he2:elemsU h (lenP x) x with
        | none=>simp [he2] at hc
        | some y =>
          obtain ⟨sz2,es2,rh2⟩:=y
          simp only [he2] at hc
          have hrh:=coreAppF_rh hc
          rw [hrh] at hh
          obtain ⟨g1,g2⟩:=elemsU_congr he2 (fun i hi=>hh i (List.mem_cons_of_mem _ hi))
          rw [g2,he]
          simp only
          rw [hh id (by simp),ho]
          simp only
          rw [g1]
          exact hc
    | some y =>
      obtain ⟨sz2,es2,rh2⟩:=y
      simp only [he] at hc
      cases s <;> simp only at hc
      case nils =>
        split at hc
        · rename_i hcond
          have hc':=hc
          injection hc with hc
          subst hc
          rw [elems_congr he hh]
          simp only [hcond,and_self,if_true]
        · cases hc
      case own id sz1 lo n =>
        cases ho:h id with
        | none=>simp [ho] at hc
        | some ob =>
          cases ob <;> simp only [ho] at hc
          case row sz1' ty1 es =>
            split at hc
            · rename_i hcond
              have hc':=hc
              injection hc with hc
              subst hc
              rw [elems_congr he (fun i hi=>hh i (List.mem_cons_of_mem _ hi))]
              simp only
              rw [hh id (by simp),ho]
              simp only
              rw [if_pos hcond]
            · cases hc
          case full sz1' ty1 es =>
            have hrh:=coreAppF_rh hc
            rw [hrh] at hh
            rw [elems_congr he (fun i hi=>hh i (List.mem_cons_of_mem _ hi))]
            simp only
            rw [hh id (by simp),ho]
            exact hc
          all_goals cases hc
      all_goals cases hc
structure St where
  env:List (Nat × PVal)
  heap:List (AId × AObj)
  next:Nat
def St.e (st:St):Env:=fun t=>st.env.lookup t
def St.h (st:St):Heap:=fun id=>st.heap.lookup id
def evalX (env:List (Nat × PVal)):AX → Option PVal
  | .t n=>env.lookup n
  | .c p=>some p
  | .f g=>some (.fn g [] [])
  | .g=>none
def evalXs (env:List (Nat × PVal)):List AX → Option (List PVal)
  | []=>some []
  | x :: r=>match evalX env x,evalXs env r with
    | some p,some ps=>some (p :: ps)
    | _,_=>none
def tmpsX:List AX → List Nat
  | []=>[]
  | .t n :: r=>n :: tmpsX r
  | _ :: r=>tmpsX r
def guarded (env:List (Nat × PVal)):Option (Nat × Bool) → Option Bool
  | none=>some true
  | some (t,b)=>match env.lookup t with
    | some (.bool x)=>some (x == b)
    | some .hole=>some false
    | _=>none
def tmpsG:Option (Nat × Bool) → List Nat
  | none=>[]
  | some (t,_)=>[t]
def dOk (n:Nat):Option Nat → Bool
  | some d=>decide (d < n)
  | none=>true
def opEff (n:Nat) (st:St) (o:AO):Option Eff :=
  if dOk n o.d = true then
    match guarded st.env o.g with
    | some true =>
      match evalXs st.env o.xs with
      | some ps=>(core o.op ps st.h st.next).map fun r=>{ rt:=tmpsG o.g ++ tmpsX o.xs,wt:=o.d.map fun d=>(d,r.v),rh:=r.rh,wh:=r.wh,nw:=r.nw }
      | none=>none
    | some false=>some { rt:=tmpsG o.g,wt:=o.d.map fun d=>(d,.hole),rh:=[],wh:=[],nw:=[] }
    | none=>none
  else none
theorem evalX_rep {P:Program} {n:Nat} {ds:List Deferred} {D:AId → Prop} {m:AId → Option Blk} {ok:Nat → Prop} {env:Env} {heap:Heap} {a:Act} {w:World} (hS:Sim n ds D m ok env heap a w) {E:List (Nat × PVal)} {x:Operand} {ax:AX} {p:PVal}
    (hx:ofOperand x = some ax) (hp:evalX E ax = some p) (ha : ∀ t ∈ tmpsX [ax],env t = E.lookup t):Rep w (okn ok m) D m false p (a.eval x):=by
  cases x with
  | tmp t =>
    simp only [ofOperand,Option.some.injEq] at hx
    subst hx
    have:=ha t (by simp [tmpsX])
    simp only [evalX] at hp
    rw [hp] at this
    obtain ⟨v,hv,hr⟩:=hS.tmp t p this
    simp only [Act.eval,Array.getD_eq_getD_getElem?,hv,Option.getD_some]
    exact hr
  | const v =>
    obtain ⟨q,hq,rfl⟩:=Option.map_eq_some_iff.1 hx
    simp only [evalX,Option.some.injEq] at hp
    subst hp
    exact ofConst_rep hq
  | func f =>
    simp only [ofOperand,Option.some.injEq] at hx
    subst hx
    simp only [evalX,Option.some.injEq] at hp
    subst hp
    have:=Rep.fn (w:=w) (ok:=okn ok m) (D:=D) (m:=m) (c:=false) (f:=f) (first:=[]) (caps:=[]) (fv:=[]) (cv:=[]) rfl rfl (fun i p v h=>by simp at h) (fun i p v h=>by simp at h)
    exact this
  | global g=>simp [ofOperand] at hx
theorem evalX_repT {P:Program} {n:Nat} {ds:List Deferred} {D:AId → Prop} {m:AId → Option Blk} {ok:Nat → Prop} {env:Env} {heap:Heap} {a:Act} {w:World} (hS:Sim n ds D m ok env heap a w) {E:List (Nat × PVal)} {x:Operand} {p:PVal}
    (hp:evalX E (ofOp x) = some p) (ha : ∀ t ∈ tmpsX [ofOp x],env t = E.lookup t):Rep w (okn ok m) D m false p (a.eval x):=by
  unfold ofOp at hp ha
  split at hp
  · rename_i ax h
    rw [h] at ha
    exact evalX_rep (P:=P) hS h hp ha
  · cases hp
theorem tmpsX_cons (ax:AX) (r:List AX):tmpsX (ax :: r) = tmpsX [ax] ++ tmpsX r:=by cases ax <;> simp [tmpsX]
theorem evalXs_rep {P:Program} {n:Nat} {ds:List Deferred} {D:AId → Prop} {m:AId → Option Blk} {ok:Nat → Prop} {env:Env} {heap:Heap} {a:Act} {w:World} (hS:Sim n ds D m ok env heap a w) {E:List (Nat × PVal)} :
    ∀ {xs:List Operand} {axs:List AX} {ps:List PVal},ofOps xs = axs → evalXs E axs = some ps → (∀ t ∈ tmpsX axs,env t = E.lookup t) → Reps w (okn ok m) D m false ps (xs.map a.eval)
  | [],axs,ps,hx,hp,ha=>by
    simp [ofOps] at hx
    subst hx
    simp [evalXs] at hp
    subst hp
    exact Reps.nil ..
  | x :: r,axs,ps,hx,hp,ha=>by
    simp only [ofOps] at hx
    subst hx
    simp only [evalXs] at hp
    split at hp
    · rename_i p ps' h3 h4
      injection hp with hp
      subst hp
      rw [tmpsX_cons] at ha
      exact Reps.cons (evalX_repT (P:=P) hS h3 fun t ht=>ha t (List.mem_append_left _ ht)) (evalXs_rep (P:=P) hS rfl h4 fun t ht=>ha t (List.mem_append_right _ ht))
    · cases hp
theorem Sim.put {n:Nat} {ds:List Deferred} {D D':AId → Prop} {m m':AId → Option Blk} {ok:Nat → Prop} {env:Env} {heap zx:Heap} {a:Act} {w w':World} (h:Sim n ds D m ok env heap a w) (hH:SimH D' m' ok zx w') (hst:Step m w m' w')
    (hD : ∀ id,D id → D' id) (hm : ∀ id,D id → m' id = m id ∨ m' id = none) (d:Option Nat) (p:PVal) (v:Value) (hd : ∀ t,d = some t → t < n) (hp:Rep w' (okn ok m') D' m' false p v) :
    Sim n ds D' m' ok (eapp (d.map fun d=>(d,p)) env) zx (a.put d v) w':=by
  refine ⟨hH,fun t q hq=>?_,?_,?_⟩
  · cases d with
    | none =>
      obtain ⟨u,h1,h2⟩:=h.tmp t q (by simpa [eapp] using hq)
      exact ⟨u,h1,h2.step hst hD hm⟩
    | some d =>
      simp only [Act.put]
      by_cases ht:t = d
      · subst ht
        simp [eapp] at hq
        subst hq
        exact ⟨v,by simp [h.sz,hd t rfl],hp⟩
      · simp only [eapp,Option.map_some,ht,if_false] at hq
        obtain ⟨u,h1,h2⟩:=h.tmp t q hq
        exact ⟨u,by rw [Array.getElem?_setIfInBounds_ne (fun e=>ht e.symm)]; exact h1,h2.step hst hD hm⟩
  · cases d <;> exact h.df
  · cases d with
    | none=>exact h.sz
    | some d=>simp [Act.put,h.sz]
theorem ofGuard_some {ops:Array Oper} {g:Option (Nat × Bool)} {g':Option (Nat × Bool)} (h:ofGuard ops g = some g') :
    (g = none ∧ g' = none) ∨ ∃ j t b,g = some (j,b) ∧ (ops[j]?).bind (·.dst) = some t ∧ g' = some (t,b):=by
  cases g with
  | none=>simp [ofGuard] at h; exact .inl ⟨rfl,h.symm⟩
  | some jb =>
    obtain ⟨j,b⟩:=jb
    simp only [ofGuard] at h
    split at h
    · rename_i t ht
      injection h with h
      exact .inr ⟨j,t,b,rfl,ht,h.symm⟩
    · cases h
theorem wanted_of {P:Program} {ops:Array Oper} {n:Nat} {ds:List Deferred} {D:AId → Prop} {m:AId → Option Blk} {ok:Nat → Prop} {env:Env} {heap:Heap} {a:Act} {w:World} (hS:Sim n ds D m ok env heap a w) {o:Oper} {g':Option (Nat × Bool)} (hg:ofGuard ops o.guard = some g')
    {E:List (Nat × PVal)} {b:Bool} (hb:guarded E g' = some b) (ha : ∀ t ∈ tmpsG g',env t = E.lookup t):Region.wanted o (yielded ops a.tmps) = b:=by
  rcases ofGuard_some hg with ⟨h1,rfl⟩ | ⟨j,t,x,h1,h2,rfl⟩
  · simp only [guarded,Option.some.injEq] at hb
    subst hb
    simp [Region.wanted,h1]
  · have hl:=ha t (by simp [tmpsG])
    simp only [guarded] at hb
    simp only [Region.wanted,h1,yielded,h2,Option.bind_some]
    split at hb
    · rename_i y hy
      injection hb with hb
      rw [hy] at hl
      obtain ⟨v,hv,hr⟩:=hS.tmp t _ hl
      rw [hv,rep_bool hr,← hb]
      simp
    · rename_i hy
      injection hb with hb
      rw [hy] at hl
      obtain ⟨v,hv,hr⟩:=hS.tmp t _ hl
      have:v = .tuple #[]:=by cases hr; rfl
      rw [hv,this,← hb]
      rfl
    · cases hb
theorem transOper_some {P:Program} {ops:Array Oper} {o:Oper} {ao:AO} (h:transOper P ops o = some ao) : ∃ xs,(trans P o.op = some (ao.op,xs) ∨ ao.op = .bad) ∧ ofGuard ops o.guard = some ao.g ∧ ofOps xs = ao.xs ∧ ao.d = o.dst:=by
  unfold transOper at h
  split at h
  · rename_i g h2
    split at h
    · rename_i op xs h1
      injection h with h
      subst h
      exact ⟨xs,.inl h1,h2,rfl,rfl⟩
    · injection h with h
      subst h
      exact ⟨[],.inr rfl,h2,rfl,rfl⟩
  · cases h
theorem transOper_nd {P:Program} {ops:Array Oper} {o:Oper} {ao:AO} (h:transOper P ops o = some ao) (hb:ao.op ≠ .bad) : ∀ c,o.op ≠ .defer c:=by
  intro c hc
  unfold transOper at h
  split at h
  · rw [hc] at h
    have e:trans P (.defer c) = some (.bad,[]):=rfl
    rw [e] at h
    injection h with h
    subst h
    exact hb rfl
  · cases h
theorem opEff_kc {n:Nat} {st:St} {ao:AO} {e:Eff} (he:opEff n st ao = some e):e.kc = []:=by
  unfold opEff at he
  split at he
  · split at he
    · split at he
      · obtain ⟨r,hr,rfl⟩:=Option.map_eq_some_iff.1 he
        rfl
      · cases he
    · injection he with he
      subst he
      rfl
    · cases he
  · cases he
theorem opEff_sound {P:Program} {ops:Array Oper} {i n:Nat} {o:Oper} {ao:AO} {st:St} {e:Eff} (ho:ops[i]? = some o) (ht:transOper P ops o = some ao) (he:opEff n st ao = some e):OpSem P ops i n e st.e st.h:=by
  obtain ⟨xs,h1,h2,h3,h4⟩:=transOper_some ht
  refine ⟨fun x hx=>?_,?_⟩
  · rw [opEff_kc he] at hx
    cases hx
  intro rr ds D m ok env heap a w Q K hS hrt hrh _ hnw hK
  unfold opEff at he
  split at he
  · rename_i hdn
    have hd : ∀ t,o.dst = some t → t < n:=by
      intro t e
      rw [h4,e] at hdn
      simpa [dOk] using hdn
    split at he
    · rename_i hg
      split at he
      · rename_i ps hps
        obtain ⟨r,hr,rfl⟩:=Option.map_eq_some_iff.1 he
        simp only at hrt hrh hnw hK
        have hw:=wanted_of (P:=P) hS h2 hg fun t ht=>hrt t (List.mem_append_left _ ht)
        have hreps:=evalXs_rep (P:=P) hS h3 hps fun t ht=>hrt t (List.mem_append_right _ ht)
        have hcore:core ao.op ps heap st.next = some r:=core_congr hr hrh
        have hnb:ao.op ≠ .bad:=fun e=>by rw [e] at hcore; simp [core] at hcore
        unfold wpOpIn
        simp only [ho,hw,if_true]
        unfold Oper.wpIn
        refine ⟨fun _ _=>trivial,?_⟩
        rw [Oper.semAt_eq _ _ _ (transOper_nd ht hnb)]
        have hn:r.nw ≠ [] → ¬ D st.next:=fun hne=>by
          rcases core_nw hr with h | h
          · exact absurd h hne
          · exact hnw st.next (by rw [h]; simp)
        have h1:trans P o.op = some (ao.op,xs):=by
          rcases h1 with h1 | h1
          · exact h1
          · rw [h1] at hcore
            simp [core] at hcore
        obtain ⟨v,w',D',m',hrun,k1,k2,k3,k4,k5⟩:=core_sound (ρ:=a.eval) h1 hS.hp hn hreps hcore
        have hD : ∀ id,D id → D' id:=fun id h=>(k4 id).2 (.inl h)
        have:=hK D' m' (a.put o.dst v) w' (by rw [h4]; exact hS.put k1 k2 hD k5 o.dst r.v v hd k3) k2 k5 k4
        rcases hrun with hrun | ⟨rfl,hrun⟩
        · rw [hrun]; exact this
        · rw [hrun]; exact this
      · cases he
    · rename_i hg
      injection he with he
      subst he
      simp only at hrt hrh hnw hK
      have hw:=wanted_of (P:=P) hS h2 hg fun t ht=>hrt t ht
      unfold wpOpIn
      simp only [ho,hw,Bool.false_eq_true,if_false]
      refine ⟨fun _ _=>trivial,?_⟩
      refine hK D m (a.put o.dst undef) w ?_ (Step.refl m w) (Mon.refl D m) (fun id=>by simp)
      rw [h4]
      exact hS.put hS.hp (Step.refl m w) (fun _ h=>h) (fun _ _=>.inl rfl) o.dst .hole undef hd .hole
    · cases he
  · cases he
end Go.Proofs.YtakallenldpkiaaGreatDoor.Abs
