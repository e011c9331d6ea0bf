/- Maps with strings as keys whose stamps are told. Generic over any program. -/
import Derived.Test.YtakallenldpkiaaGreatDoorA8N
import GoSem.Instr.MapEntry
set_option linter.unusedVariables false
set_option linter.unusedSimpArgs false
set_option linter.unusedSectionVars false
namespace Go.Proofs.YtakallenldpkiaaGreatDoor.Abs
open Go
variable [DqC]
section
variable {P:Program} {o:Oper} {ρ:Operand → Value} {D:AId → Prop} {m:AId → Option Blk} {ok:Nat → Prop} {heap:AId → Option AObj} {w:World} {nx:AId} {r:R}
theorem run_str_check {kt:TypeId} (hk:P.underlying kt = some .string) (em:Bool) (n:Nat) (k:ByteArray) (w:World):(Instr.checkKey em (n + 1) kt (.string k)).run P w = .ok () w:=by
 simp [Instr.checkKey,Sem.run_bind,run_underlying hk]
theorem findE_spec {k:ByteArray} : ∀ {es:List (Nat × ByteArray × PVal)} {ents:List MapEntry} (j:Nat),ents.length = es.length →
  (∀ (i s:Nat) (k:ByteArray) (x:PVal),es[i]? = some (s,k,x) → ∃ e,ents[i]? = some e ∧ e.born = s ∧ e.key = .string k ∧ Rep w (okn ok m) D m true x e.val) →
  match findE k j es with
  | some (i,s,x)=>∃ e,j ≤ i ∧ ents[i - j]? = some e ∧ es[i - j]? = some (s,k,x) ∧ e.born = s ∧ e.key = .string k ∧ Rep w (okn ok m) D m true x e.val ∧ Instr.findNow .string (.string k) ents j = some (some (i,e.val))
  | none=>Instr.findNow .string (.string k) ents j = some none
 | [],ents,j,hl,_=>by
  obtain rfl:=List.eq_nil_of_length_eq_zero hl
  rfl
 | (s,k',x) :: r,ents,j,hl,hr=>by
  match ents,hl with
  | e :: ents,hl =>
   obtain ⟨e',h0,h1,h2,h3⟩:=hr 0 s k' x rfl
   simp at h0
   subst h0
   unfold findE
   cases hb:(k == k') with
   | true =>
    have:=str_eq hb
    subst this
    simp only [cond_true]
    refine ⟨e,Nat.le_refl _,by simp,by simp,h1,h2,h3,?_⟩
    simp [Instr.findNow,h2,Instr.sameNow,hb]
   | false =>
    simp only [cond_false]
    have ih:=findE_spec (k:=k) (es:=r) (ents:=ents) (j + 1) (by simpa using hl) (fun i s k x hi=>by have:=hr (i + 1) s k x (by simpa using hi); simpa using this)
    have hn : ∀ res,Instr.findNow .string (.string k) ents (j + 1) = res → Instr.findNow .string (.string k) (e :: ents) j = res:=by
     intro res h
     simp [Instr.findNow,h2,Instr.sameNow,hb,h]
    cases hf:findE k (j + 1) r with
    | none=>rw [hf] at ih; exact hn _ ih
    | some y =>
     obtain ⟨i,s2,x2⟩:=y
     rw [hf] at ih
     obtain ⟨e2,a1,a2,a3,a4,a5,a6,a7⟩:=ih
     refine ⟨e2,by omega,?_,?_,a4,a5,a6,hn _ a7⟩
     ·rw [show i - j = (i - (j + 1)) + 1 by omega]; simpa using a2
     ·rw [show i - j = (i - (j + 1)) + 1 by omega]; simpa using a3
theorem delE_eq {k:ByteArray} : ∀ (es:List (Nat × ByteArray × PVal)) (j:Nat),match findE k j es with
  | some (i,_,_)=>j ≤ i ∧ delE k es = es.eraseIdx (i - j)
  | none=>delE k es = es
 | [],j=>rfl
 | (s,k',x) :: r,j=>by
  unfold findE delE
  cases hb:(k == k') with
  | true=>simp
  | false =>
   simp only [cond_false]
   have ih:=delE_eq (k:=k) r (j + 1)
   cases hf:findE k (j + 1) r with
   | none=>rw [hf] at ih; simp only at ih ⊢; rw [ih]
   | some y =>
    obtain ⟨i,s2,x2⟩:=y
    rw [hf] at ih
    simp only at ih ⊢
    obtain ⟨h1,h2⟩:=ih
    refine ⟨by omega,?_⟩
    rw [h2,show i - j = (i - (j + 1)) + 1 by omega,List.eraseIdx_cons_succ]
theorem qmap_str {t:TypeId} (h:qmap P t = true) : ∃ k e,P.underlying t = some (.map k e) ∧ P.underlying k = some .string:=by
 unfold qmap at h
 simp only [Bool.and_eq_true] at h
 obtain ⟨_,h⟩:=h
 split at h
 ·rename_i k e ht
  split at h
  ·rename_i hk; exact ⟨k,e,ht,hk⟩
  ·cases h
 ·cases h
theorem qzero_of {t k e:TypeId} {z:PVal} (ht:P.underlying t = some (.map k e)) (h:qzero P t = some z) : ∃ ie v,P.info? e = some ie ∧ ie.zero = some v ∧ ofConst v = some z:=by
 unfold qzero at h
 rw [ht] at h
 simp only at h
 split at h
 ·rename_i ie hi
  split at h
  ·rename_i v hz; exact ⟨ie,v,hi,hz,h⟩
  ·cases h
 ·cases h
theorem core_qmk {t:TypeId} (h:o.op = .makeMap t none) (hH:SimH D m ok heap w) (hnx : ¬ D nx) (hc:coreQ .mk [] heap nx = some r):Out P o ρ D m ok heap w r:=by
 simp only [coreQ,Option.some.injEq] at hc
 subst hc
 refine Out.new hH hnx (v:=.map (some w.heap.size)) (.mq 0 []) (.map #[] 0) 0 [] ?_ (fun m' D' _ _ _=>⟨#[],?_,rfl,fun i s k x h=>by simp at h⟩) (fun m' D' _ _ _ hd hm=>.mapr hd rfl fun b t e=>?_)
 ·unfold execOp
  simp only [h]
  simp [Instr.makeMap]
 ·exact heap_alloc_new w _
 ·rw [hm] at e
  injection e with e
  injection e with e1 e2
  rw [e1]
theorem mq_at {id:AId} {c:Nat} {es:List (Nat × ByteArray × PVal)} (hH:SimH D m ok heap w) (ho:heap id = some (.mq c es)) {v:Value} (hx:Rep w (okn ok m) D m false (.mapr id) v) :
  ∃ b t ents,m id = some (.at b t) ∧ v = .map (some b) ∧ w.heap[b]? = some (.map ents c) ∧ ents.size = es.length ∧
   ∀ (i s:Nat) (k:ByteArray) (x:PVal),es[i]? = some (s,k,x) → ∃ e,ents[i]? = some e ∧ e.born = s ∧ e.key = .string k ∧ Rep w (okn ok m) D m true x e.val:=by
 obtain ⟨B,hB,hob⟩:=hH.obj id _ ho
 cases B with
 | nil=>exact hob.elim
 | «at» b tt =>
  obtain ⟨ents,g1,g2,g3⟩:=hob
  cases hx with
  | mapr _ _ hp=>exact ⟨b,tt,ents,hB,hp b tt hB,g1,g2,g3⟩
theorem core_qlook {t:TypeId} {x i:Operand} {c:Bool} {z p q:PVal} (h:o.op = .lookup t x i c) (hq:qmap P t = true) (hz:qzero P t = some z)
  (hH:SimH D m ok heap w) (hx:Rep w (okn ok m) D m false p (ρ x)) (hy:Rep w (okn ok m) D m false q (ρ i)) (hc:coreQ (.look z c) [p,q] heap nx = some r):Out P o ρ D m ok heap w r:=by
 obtain ⟨kt,e,ht,hk⟩:=qmap_str hq
 obtain ⟨ie,zv,hi,hzz,hzp⟩:=qzero_of ht hz
 have hzr : ∀ {cc:Bool},Rep w (okn ok m) D m cc z zv:=ofConst_rep hzp
 have hres : ∀ (y:PVal) (v:Value) (b:Bool),Rep w (okn ok m) D m false y v → Rep w (okn ok m) D m false (if c then .tup [y,.bool b] else y) (if c then .tuple #[v,.bool b] else v):=by
  intro y v b hv
  cases c
  ·exact hv
  ·exact Rep.tup (cs:=[y,.bool b]) (vs:=[v,.bool b]) rfl (Reps.cons hv (Reps.cons .bool (Reps.nil ..))).2
 cases p <;> cases q <;> simp only [coreQ] at hc <;> try (cases hc; done)
 rename_i id k
 cases ho:heap id with
 | none=>simp [ho] at hc
 | some ob =>
  cases ob <;> simp only [ho] at hc <;> try (cases hc; done)
  rename_i cl es
  obtain ⟨b,tt,ents,hB,hxv,g1,g2,g3⟩:=mq_at hH ho hx
  have hkv:=rep_str hy
  have hs:=findE_spec (w:=w) (ok:=ok) (D:=D) (m:=m) (k:=k) (es:=es) (ents:=ents.toList) 0 (by simpa using g2) (fun i s k x h=>by have:=g3 i s k x h; simpa using this)
  have hrun : ∀ (res:Option (Nat × Value)),Instr.findNow .string (.string k) ents.toList 0 = some res → (execOp ρ o).run P w = .ok (.value (if c then .tuple #[(res.map (·.2)).getD zv,.bool res.isSome] else (res.map (·.2)).getD zv)) w:=by
   intro res hres
   rw [exec_lookup h,hxv,hkv]
   unfold Instr.lookup
   simp only [Sem.run_bind,run_underlying ht,Result.andThen_ok,MapKept.run_getObj_map g1,Sem.run_pure,run_str_check hk,MapKept.run_findKey hk hres]
   cases res with
   | none =>
    simp only [Result.andThen_ok,Sem.run_bind,zero_run hi hzz,Sem.run_pure]
    cases c <;> rfl
   | some y =>
    simp only [Result.andThen_ok,Sem.run_bind,Sem.run_pure]
    cases c <;> rfl
  cases hf:findE k 0 es with
  | none =>
   rw [hf] at hc hs
   simp only [Option.some.injEq] at hc
   subst hc
   exact Out.pure hH [id] (hrun _ hs) (hres z zv false hzr)
  | some y =>
   obtain ⟨i',s,y⟩:=y
   rw [hf] at hc hs
   simp only [Option.some.injEq] at hc
   subst hc
   obtain ⟨e',_,_,_,_,_,a6,a7⟩:=hs
   exact Out.pure hH [id] (hrun _ a7) (hres y e'.val true a6.opened)
theorem core_qlen {args:Array Operand} {ats:Array TypeId} {x:Operand} {t:TypeId} {p:PVal} (h:o.op = .call { callee:=.builtin .len,args,argTypes:=ats }) (ha:args.toList = [x]) (hat:ats.toList = [t]) (hq:qmap P t = true)
  (hH:SimH D m ok heap w) (hx:Rep w (okn ok m) D m false p (ρ x)) (hc:coreQ .len [p] heap nx = some r):Out P o ρ D m ok heap w r:=by
 obtain ⟨kt,e,ht,hk⟩:=qmap_str hq
 have ha':args = #[x]:=by rw [← Array.toArray_toList (xs:=args),ha]
 have hat':ats = #[t]:=by rw [← Array.toArray_toList (xs:=ats),hat]
 cases p <;> simp only [coreQ] at hc <;> try (cases hc; done)
 rename_i id
 cases ho:heap id with
 | none=>simp [ho] at hc
 | some ob =>
  cases ob <;> simp only [ho] at hc <;> try (cases hc; done)
  rename_i cl es
  injection hc with hc
  subst hc
  obtain ⟨b,tt,ents,hB,hxv,g1,g2,g3⟩:=mq_at hH ho hx
  refine Out.pure hH [id] (v:=.int .i64 es.length) ?_ .int
  unfold execOp
  simp only [h,ha',hat']
  simp [resolve,invoke,builtin,Builtin.len_,run_underlying ht,hxv,Sem.run_bind,MapKept.run_getObj_map g1,g2,goInt]
theorem mq_step {w':World} {cc:Bool} {p:PVal} {u:Value} (hst:Step m w m w') (h:Rep w (okn ok m) D m cc p u):Rep w' (okn ok m) D m cc p u:=h.step hst (fun _ h=>h) (fun _ _=>.inl rfl)
theorem core_qdel {args:Array Operand} {ats:Array TypeId} {x i:Operand} {t:TypeId} {rest:List TypeId} {p q:PVal} (h:o.op = .call { callee:=.builtin .delete,args,argTypes:=ats }) (ha:args.toList = [x,i]) (hat:ats.toList = t :: rest) (hq:qmap P t = true)
  (hH:SimH D m ok heap w) (hx:Rep w (okn ok m) D m false p (ρ x)) (hy:Rep w (okn ok m) D m false q (ρ i)) (hc:coreQ .del [p,q] heap nx = some r):Out P o ρ D m ok heap w r:=by
 obtain ⟨kt,e,ht,hk⟩:=qmap_str hq
 have ha':args = #[x,i]:=by rw [← Array.toArray_toList (xs:=args),ha]
 have hat':ats[0]? = some t:=by rw [← Array.getElem?_toList,hat]; rfl
 cases p <;> cases q <;> simp only [coreQ] at hc <;> try (cases hc; done)
 rename_i id k
 cases ho:heap id with
 | none=>simp [ho] at hc
 | some ob =>
  cases ob <;> simp only [ho] at hc <;> try (cases hc; done)
  rename_i cl es
  injection hc with hc
  subst hc
  obtain ⟨b,tt,ents,hB,hxv,g1,g2,g3⟩:=mq_at hH ho hx
  have hkv:=rep_str hy
  have hs:=findE_spec (w:=w) (ok:=ok) (D:=D) (m:=m) (k:=k) (es:=es) (ents:=ents.toList) 0 (by simpa using g2) (fun i s k x h=>by have:=g3 i s k x h; simpa using this)
  have hd:=delE_eq (k:=k) es 0
  cases hf:findE k 0 es with
  | none =>
   rw [hf] at hs hd
   simp only at hs hd
   rw [hd]
   refine Out.wrote hH (w':={ w with heap:=w.heap.setIfInBounds b (.map ents cl) }) hB (.mq cl es) [id] (v:=.tuple #[]) ?_ rfl rfl rfl (by simp) (fun k hk=>(MapKept.heap_set (o':=.map ents cl) g1).2 k hk) (fun hst=>⟨ents,(MapKept.heap_set g1).1,g2,fun j s k x hj=>?_⟩) .hole
   ·unfold execOp
    simp only [h,ha']
    simp [resolve,invoke,builtin,Builtin.delete_,hat',run_underlying ht,hxv,hkv,Sem.run_bind,MapKept.run_getObj_map g1,run_str_check hk,MapKept.run_findKey hk hs,MapKept.run_setObj_map _ g1]
   ·obtain ⟨e2,a1,a2,a3,a4⟩:=g3 j s k x hj
    exact ⟨e2,a1,a2,a3,mq_step hst a4⟩
  | some y =>
   obtain ⟨i',s,y⟩:=y
   rw [hf] at hs hd
   simp only [Nat.sub_zero,Nat.zero_le,true_and] at hs hd
   obtain ⟨e',a2,a3,a4,a5,a6,a7⟩:=hs
   have hi':i' < ents.size:=by
    have:=(List.getElem?_eq_some_iff.1 a2).1
    simpa using this
   rw [hd]
   refine Out.wrote hH (w':={ w with heap:=w.heap.setIfInBounds b (.map (ents.eraseIdxIfInBounds i') cl) }) hB (.mq cl (es.eraseIdx i')) [id] (v:=.tuple #[]) ?_ rfl rfl rfl (by simp) (fun k hk=>(MapKept.heap_set (o':=.map (ents.eraseIdxIfInBounds i') cl) g1).2 k hk)
    (fun hst=>⟨ents.eraseIdxIfInBounds i',(MapKept.heap_set g1).1,by rw [List.length_eraseIdx,if_pos (by rw [← g2]; exact hi'),Array.eraseIdxIfInBounds,dif_pos hi',Array.size_eraseIdx,g2],fun j s k x hj=>?_⟩) .hole
   ·unfold execOp
    simp only [h,ha']
    simp [resolve,invoke,builtin,Builtin.delete_,hat',run_underlying ht,hxv,hkv,Sem.run_bind,MapKept.run_getObj_map g1,run_str_check hk,MapKept.run_findKey hk a7,MapKept.run_setObj_map _ g1]
   ·have hee:(ents.eraseIdxIfInBounds i')[j]? = if j < i' then ents[j]? else ents[j + 1]?:=by rw [Array.eraseIdxIfInBounds,dif_pos hi',Array.getElem?_eraseIdx]
    rw [List.getElem?_eraseIdx] at hj
    rw [hee]
    by_cases hji:j < i'
    ·rw [if_pos hji] at hj ⊢
     obtain ⟨e2,a1,a2,a3,a4⟩:=g3 j s k x hj
     exact ⟨e2,a1,a2,a3,mq_step hst a4⟩
    ·rw [if_neg hji] at hj ⊢
     obtain ⟨e2,a1,a2,a3,a4⟩:=g3 (j + 1) s k x hj
     exact ⟨e2,a1,a2,a3,mq_step hst a4⟩
theorem step_own {id:AId} {b tt:Nat} (hB:m id = some (.at b tt)) {o:Obj} (g1:w.heap[b]? = some o) (o':Obj):Step m w m { w with heap:=w.heap.setIfInBounds b o' } :=
 ⟨rfl,Tp.same rfl rfl,rfl,by simp,fun k hk hn=>(MapKept.heap_set (o':=o') g1).2 k fun e=>hn id tt (by rw [e]; exact hB),fun id b t h=>.inl ⟨id,t,h⟩⟩
theorem core_qent {t:TypeId} {x i:Operand} {z p q:PVal} (h:o.op = .mapEntry t x i) (hq:qmap P t = true) (hz:qzero P t = some z)
  (hH:SimH D m ok heap w) (hx:Rep w (okn ok m) D m false p (ρ x)) (hy:Rep w (okn ok m) D m false q (ρ i)) (hc:coreQ (.ent z) [p,q] heap nx = some r):Out P o ρ D m ok heap w r:=by
 obtain ⟨kt,e,ht,hk⟩:=qmap_str hq
 obtain ⟨ie,zv,hi,hzz,hzp⟩:=qzero_of ht hz
 have hzr : ∀ {w:World} {cc:Bool},Rep w (okn ok m) D m cc z zv:=ofConst_rep hzp
 cases p <;> cases q <;> simp only [coreQ] at hc <;> try (cases hc; done)
 rename_i id k
 cases ho:heap id with
 | none=>simp [ho] at hc
 | some ob =>
  cases ob <;> simp only [ho] at hc <;> try (cases hc; done)
  rename_i cl es
  obtain ⟨b,tt,ents,hB,hxv,g1,g2,g3⟩:=mq_at hH ho hx
  have hkv:=rep_str hy
  have hs:=findE_spec (w:=w) (ok:=ok) (D:=D) (m:=m) (k:=k) (es:=es) (ents:=ents.toList) 0 (by simpa using g2) (fun i s k x h=>by have:=g3 i s k x h; simpa using this)
  have hex:(execOp ρ o).run P w = ((Instr.mapEntry t (ρ x) (ρ i)).run P w).andThen fun v w'=>.ok (.value v) w':=by
   unfold execOp
   simp only [h]
   simp [Sem.run_bind]
  cases hf:findE k 0 es with
  | none =>
   rw [hf] at hc hs
   simp only [Option.some.injEq] at hc hs
   subst hc
   refine Out.wrote hH (w':={ w with heap:=w.heap.setIfInBounds b (.map (ents.push { key:=.string k,val:=zv,born:=cl }) (cl + 1)) }) hB (.mq (cl + 1) (es ++ [(cl,k,z)])) [id] (v:=.tuple #[zv,goInt cl]) ?_ rfl rfl rfl (by simp) (fun k' hk=>(MapKept.heap_set (o':=.map (ents.push { key:=.string k,val:=zv,born:=cl }) (cl + 1)) g1).2 k' hk)
    (fun hst=>⟨_,(MapKept.heap_set g1).1,by simp [g2],fun j s k' x hj=>?_⟩) (Rep.tup (cs:=[z,.int .i64 cl]) (vs:=[zv,goInt cl]) rfl (Reps.cons hzr (Reps.cons .int (Reps.nil ..))).2)
   ·rw [hex,hxv,hkv]
    unfold Instr.mapEntry
    simp only [Sem.run_bind,run_underlying ht,Result.andThen_ok,MapKept.run_getObj_map g1,run_str_check hk,MapKept.run_findKey hk hs,zero_run hi hzz,MapKept.run_setObj_map _ g1,Sem.run_pure]
   ·rw [Array.getElem?_push]
    by_cases hij:j < es.length
    ·rw [List.getElem?_append_left hij] at hj
     rw [if_neg (by omega)]
     obtain ⟨e2,a1,a2,a3,a4⟩:=g3 j s k' x hj
     exact ⟨e2,a1,a2,a3,mq_step hst a4⟩
    ·have hjl:j = es.length:=by
      have:=(List.getElem?_eq_some_iff.1 hj).1
      simp at this; omega
     subst hjl
     simp only [List.getElem?_append_right (Nat.le_refl _),Nat.sub_self,List.getElem?_cons_zero,Option.some.injEq,Prod.mk.injEq] at hj
     obtain ⟨rfl,rfl,rfl⟩:=hj
     rw [if_pos g2.symm]
     exact ⟨_,rfl,rfl,rfl,hzr⟩
  | some y =>
   obtain ⟨i',s,y⟩:=y
   rw [hf] at hc hs
   simp only [Option.some.injEq] at hc
   subst hc
   simp only [Nat.sub_zero,Nat.zero_le,true_and] at hs
   obtain ⟨e',a2,a3,a4,a5,a6,a7⟩:=hs
   have a2':ents[i']? = some e':=by simpa using a2
   refine Out.wrote hH (w':={ w with heap:=w.heap.setIfInBounds b (.map (ents.modify i' fun e=>{ e with key:=.string k }) cl) }) hB (.mq cl es) [id] (v:=.tuple #[e'.val,goInt s]) ?_ rfl rfl rfl (by simp) (fun k' hk=>(MapKept.heap_set (o':=.map (ents.modify i' fun e=>{ e with key:=.string k }) cl) g1).2 k' hk)
    (fun hst=>⟨_,(MapKept.heap_set g1).1,by simpa using g2,fun j s k' x hj=>?_⟩) (Rep.tup (cs:=[y,.int .i64 s]) (vs:=[e'.val,goInt s]) rfl ?_)
   ·rw [hex,hxv,hkv]
    unfold Instr.mapEntry
    have hstay:(Instr.keyThatStays (.string k) (.string k)).run P w = .ok (.string k) w:=by
     unfold Instr.keyThatStays
     rw [if_pos (by simp [Instr.sameBits,str_refl])]
     rfl
    simp only [Sem.run_bind,run_underlying ht,Result.andThen_ok,MapKept.run_getObj_map g1,run_str_check hk,MapKept.run_findKey hk a7,a2',Option.map_some,Option.getD_some,a5,hstay,MapKept.run_setObj_map _ g1,Sem.run_pure,a4]
   ·rw [Array.getElem?_modify]
    obtain ⟨e2,b1,b2,b3,b4⟩:=g3 j s k' x hj
    by_cases hij:i' = j
    ·subst hij
     rw [if_pos rfl,b1]
     rw [a2'] at b1
     injection b1 with b1
     subst b1
     refine ⟨_,rfl,b2,?_,mq_step hst b4⟩
     rw [← b3,a5]
    ·rw [if_neg hij]
     exact ⟨e2,b1,b2,b3,mq_step hst b4⟩
   ·intro i p v hp hv
    match i with
    | 0=>simp at hp hv; subst hp hv; exact (mq_step (step_own hB g1 _) a6).opened
    | 1=>simp at hp hv; subst hp hv; exact .int
    | i + 2=>simp at hp
theorem putE_spec {s:Int} {x:PVal} : ∀ {es l:List (Nat × ByteArray × PVal)} {ents:List MapEntry},putE s x es = some l → ents.length = es.length →
  (∀ (i s:Nat) (k:ByteArray) (x:PVal),es[i]? = some (s,k,x) → ∃ e,ents[i]? = some e ∧ e.born = s ∧ e.key = .string k ∧ Rep w (okn ok m) D m true x e.val) →
  ∃ i s' k y,ents.findIdx? (fun e=>(e.born:Int) == s) = some i ∧ es[i]? = some (s',k,y) ∧ l = es.set i (s',k,x)
 | [],l,ents,h,_,_=>by simp [putE] at h
 | (s',k,y) :: r,l,ents,h,hl,hr=>by
  match ents,hl with
  | e :: ents,hl =>
   obtain ⟨e',h0,h1,h2,h3⟩:=hr 0 s' k y rfl
   simp at h0
   subst h0
   unfold putE at h
   cases hb:decide ((s':Int) = s) with
   | true =>
    rw [hb] at h
    simp only [cond_true,Option.some.injEq] at h
    subst h
    refine ⟨0,s',k,y,?_,rfl,rfl⟩
    have:((e.born:Int) == s) = true:=by rw [h1]; simpa using hb
    simp [List.findIdx?_cons,this]
   | false =>
    rw [hb] at h
    simp only [cond_false] at h
    split at h
    ·rename_i l' hl'
     injection h with h
     subst h
     obtain ⟨i,s2,k2,y2,a1,a2,a3⟩:=putE_spec hl' (by simpa using hl) (fun i s k x hi=>by have:=hr (i + 1) s k x (by simpa using hi); simpa using this)
     refine ⟨i + 1,s2,k2,y2,?_,by simpa using a2,by rw [a3]; rfl⟩
     have:((e.born:Int) == s) = false:=by rw [h1]; simpa using hb
     simp [List.findIdx?_cons,this,a1]
    ·cases h
theorem core_qput {t:TypeId} {x i v:Operand} {p q y:PVal} (h:o.op = .entryStore t x i v) (hH:SimH D m ok heap w) (hx:Rep w (okn ok m) D m false p (ρ x)) (hq:Rep w (okn ok m) D m false q (ρ i)) (hy:Rep w (okn ok m) D m false y (ρ v))
  (hc:coreQ .put [p,q,y] heap nx = some r):Out P o ρ D m ok heap w r:=by
 cases p <;> cases q <;> simp only [coreQ] at hc <;> try (cases hc; done)
 rename_i id ik s
 cases ik <;> simp only at hc <;> try (cases hc; done)
 cases ho:heap id with
 | none=>simp [ho] at hc
 | some ob =>
  cases ob <;> simp only [ho] at hc <;> try (cases hc; done)
  rename_i cl es
  split at hc
  ·rename_i hcl
   split at hc
   ·rename_i l hput
    injection hc with hc
    subst hc
    obtain ⟨b,tt,ents,hB,hxv,g1,g2,g3⟩:=mq_at hH ho hx
    have hsv:ρ i = .int .i64 s:=by generalize ρ i = I at hq; cases hq; rfl
    have hyc:=hy.close hcl
    obtain ⟨i',s',k,y0,f1,f2,f3⟩:=putE_spec (w:=w) (ok:=ok) (D:=D) (m:=m) (ents:=ents.toList) hput (by simpa using g2) (fun i s k x h=>by have:=g3 i s k x h; simpa using this)
    have f1':ents.findIdx? (fun e=>(e.born:Int) == s) = some i':=by rw [← f1,← List.findIdx?_toArray]
    refine Out.change hH (B:=.at b tt) (w':={ w with heap:=w.heap.setIfInBounds b (.map (ents.modify i' fun e=>{ e with val:=ρ v }) cl) }) hB (.mq cl l) [id] ?_ rfl rfl rfl (by simp) (fun k hk=>(MapKept.heap_set (o':=.map (ents.modify i' fun e=>{ e with val:=ρ v }) cl) g1).2 k hk)
     (fun hst=>⟨_,(MapKept.heap_set g1).1,by rw [f3]; simpa using g2,fun j s k' x hj=>?_⟩)
    ·unfold execOp
     simp only [h]
     simp [Instr.entryStore,hxv,hsv,asInt,asIntOf,Sem.run_bind,MapKept.run_getObj_map g1,f1',MapKept.run_setObj_map _ g1]
    ·rw [f3,List.getElem?_set] at hj
     rw [Array.getElem?_modify]
     by_cases hij:i' = j
     ·subst hij
      obtain ⟨e2,b1,b2,b3,b4⟩:=g3 i' s' k y0 f2
      have hlen:i' < es.length:=(List.getElem?_eq_some_iff.1 f2).1
      simp only [if_true,hlen] at hj
      injection hj with hj
      injection hj with c1 c2
      injection c2 with c2 c3
      subst c1 c2 c3
      rw [if_pos rfl,b1]
      exact ⟨_,rfl,b2,b3,mq_step hst hyc⟩
     ·rw [if_neg hij] at hj ⊢
      obtain ⟨e2,b1,b2,b3,b4⟩:=g3 j s k' x hj
      exact ⟨e2,b1,b2,b3,mq_step hst b4⟩
   ·cases hc
  ·cases hc
end
end Go.Proofs.YtakallenldpkiaaGreatDoor.Abs
