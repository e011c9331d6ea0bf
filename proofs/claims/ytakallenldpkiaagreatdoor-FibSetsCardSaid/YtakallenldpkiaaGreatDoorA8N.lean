/- Maps whose keys are rows of leaves; taking a key out of a map. Generic over any program. -/
import Derived.Test.YtakallenldpkiaaGreatDoorA8K
set_option linter.unusedVariables false
set_option linter.unusedSimpArgs false
set_option linter.unusedSectionVars false
namespace Go.Proofs.YtakallenldpkiaaGreatDoor.Abs
open Go
variable [DqC]
section
variable {P:Program} {o:Oper} {ρ:Operand → Value} {D:AId → Prop} {m:AId → Option Blk} {ok:Nat → Prop} {heap:AId → Option AObj} {w:World} {nx:AId} {r:R}
theorem flat_take {ks ls:List LK} {ps:List PVal} {b:Bool} (h:flatEq (ks ++ ls) ps ps = some b) : ∃ b1 b2,flatEq ks (ps.take ks.length) (ps.take ks.length) = some b1 ∧ flatEq ls (ps.drop ks.length) (ps.drop ks.length) = some b2:=by
 obtain ⟨b1,b2,e1,e2,_⟩:=flatEq_append h
 exact ⟨b1,b2,e1,e2⟩
mutual
theorem checkFlat_run (P:Program) (em:Bool) : ∀ (d n:Nat),d ≤ n → ∀ (t:TypeId) (ks:List LK),flatK P d t = some ks → ∀ (ps:List PVal) (b:Bool),flatEq ks ps ps = some b → ∀ w,(Instr.checkKey em n t (tv P t ps)).run P w = .ok () w
 | 0,n,hn,t,ks,h=>by simp [flatK] at h
 | d + 1,0,hn,t,ks,h=>by omega
 | d + 1,n + 1,hn,t,ks,h=>by
  intro ps b hb w
  unfold flatK at h
  split at h
  ·rename_i k hd
   injection h with h
   subst h
   obtain ⟨e1,_⟩:=flatEq_len hb
   match ps,e1 with
   | [p],_ =>
    rw [tv_one hd rfl]
    cases p <;> simp [flatEq,leafIs,leafEq] at hb
    simp [Instr.checkKey,Sem.run_bind,run_underlying hd,leafVal]
  ·rename_i hd
   injection h with h
   subst h
   obtain ⟨e1,_⟩:=flatEq_len hb
   match ps,e1 with
   | [p],_ =>
    rw [tv_one hd rfl]
    cases p <;> simp [flatEq,leafIs,leafEq] at hb
    simp [Instr.checkKey,Sem.run_bind,run_underlying hd,leafVal]
  ·rename_i hd
   injection h with h
   subst h
   obtain ⟨e1,_⟩:=flatEq_len hb
   match ps,e1 with
   | [p],_ =>
    rw [tv_one hd rfl]
    cases p <;> simp [flatEq,leafIs,leafEq] at hb
    simp [Instr.checkKey,Sem.run_bind,run_underlying hd,leafVal]
  ·rename_i fs hd
   split at h
   ·cases h
   ·have ht : ∀ l,tv P t l = .agg (l.map leafVal).toArray:=fun l=>by simp [tv,hd,isAggD]
    rw [ht,Instr.checkKey]
    simp only [Sem.run_bind,run_underlying hd,Result.andThen_ok]
    rw [← Array.forIn_toList]
    have:=checkFields_run P em d n (by omega) fs.toList 0 ks h [] ps rfl b hb w
    simp only [List.nil_append] at this
    rw [this]
    rfl
  ·cases h
theorem checkFields_run (P:Program) (em:Bool) : ∀ (d n:Nat),d ≤ n → ∀ (fs:List Field) (off:Nat) (ks:List LK),flatF P d fs off = some ks → ∀ (pre ps:List PVal),pre.length = off → ∀ (b:Bool),flatEq ks ps ps = some b →
  ∀ w,(forIn fs PUnit.unit fun f (_:PUnit)=>if f.name ≠ "_" then (do
   let x ← part f.type ((pre ++ ps).map leafVal).toArray f.offset
   Instr.checkKey em n f.type x
   pure (ForInStep.yield PUnit.unit):Sem (ForInStep PUnit)) else pure (ForInStep.yield PUnit.unit)).run P w = .ok PUnit.unit w
 | 0,n,hn,fs,off,ks,h=>by simp [flatF] at h
 | d + 1,n,hn,[],off,ks,h=>by
  intro pre ps h1 b hb w
  simp
 | d + 1,n,hn,f :: r,off,ks,h=>by
  intro pre ps h1 b hb w
  unfold flatF at h
  split at h
  ·cases h
  ·rename_i hname
   split at h
   ·rename_i ks1 i ls hk hi hl
    split at h
    ·rename_i hlen
     injection h with h
     subst h
     simp only [hi,Option.map_some,Option.getD_some] at hl
     obtain ⟨b1,b2,e1,e2⟩:=flat_take hb
     obtain ⟨l1,_⟩:=flatEq_len e1
     have hnm:f.name ≠ "_":=fun e=>hname (.inl e)
     have hoff:f.offset = off:=Classical.byContradiction fun e=>hname (.inr e)
     have hq:=checkFlat_run P em d n (by omega) f.type ks1 hk _ b1 e1
     have hp : ∀ w,(part f.type ((pre ++ ps).map leafVal).toArray f.offset).run P w = .ok (tv P f.type (ps.take ks1.length)) w:=by
      intro w
      have hu : ∃ dd,P.underlying f.type = some dd:=by
       cases d with
       | zero=>simp [flatK] at hk
       | succ d =>
        unfold flatK at hk
        split at hk <;> first | exact ⟨_,by assumption⟩ | cases hk
      obtain ⟨dd,hdd⟩:=hu
      cases hag:isAggD dd with
      | true =>
       rw [run_part_agg hdd hag hi]
       simp only [tv,hdd,Option.map_some,Option.getD_some,hag,if_true]
       congr 2
       rw [hoff,← h1,← hlen]
       simp [List.drop_append,List.take_append]
      | false =>
       have hone:ks1.length = 1:=by
        cases d with
        | zero=>simp [flatK] at hk
        | succ d =>
         unfold flatK at hk
         rw [hdd] at hk
         cases dd <;> simp [isAggD] at hag <;> simp at hk <;> (try (subst hk; rfl))
       match ps,l1 with
       | x :: l',_ =>
        rw [hone]
        simp only [List.take_succ_cons,List.take_zero]
        rw [tv_one hdd hag]
        refine run_part_leaf hdd hag _ _ _ ?_
        rw [hoff,← h1]
        simp
       | [],l1=>simp [hone] at l1
     simp only [List.forIn_cons,Sem.run_bind,hnm,ne_eq,not_false_eq_true,if_true,Result.andThen_ok,hp,hq,Sem.run_pure]
     have:=checkFields_run P em d n (by omega) r (off + i.size) ls hl (pre ++ ps.take ks1.length) (ps.drop ks1.length) (by simp [h1,← hlen]; have:=l1; simp at this; omega) b2 e2 w
     simpa [List.append_assoc] using this
    ·cases h
   ·cases h
end
theorem flatEq_eq : ∀ {ks:List LK} {ps qs:List PVal},flatEq ks ps qs = some true → ps = qs
 | [],[],[],_=>rfl
 | [],_ :: _,_,h=>by simp [flatEq] at h
 | [],[],_ :: _,h=>by simp [flatEq] at h
 | _ :: _,[],_,h=>by simp [flatEq] at h
 | _ :: _,_ :: _,[],h=>by simp [flatEq] at h
 | k :: ks,p :: ps,q :: qs,h=>by
  simp only [flatEq] at h
  split at h
  ·rename_i hl
   split at h
   ·rename_i a b h1 h2
    injection h with h
    simp only [Bool.and_eq_true] at h
    obtain ⟨rfl,rfl⟩:=h
    rw [leafEq_eq hl.1 hl.2 h1,flatEq_eq h2]
   ·cases h
  ·cases h
theorem flat_rep {ks:List LK} {ps:List PVal} {b:Bool} (hf:flatEq ks ps ps = some b) {cl:Bool} {v:Value} (h:Rep w (okn ok m) D m cl (.agg ps) v):v = .agg (ps.map leafVal).toArray:=by
 generalize hA:PVal.agg ps = A at h
 cases h <;> cases hA
 rename_i vs h1 hl h
 congr 1
 apply congrArg
 have key : ∀ (ks:List LK) (ps:List PVal) (vs:List Value) (b:Bool),flatEq ks ps ps = some b → ps.length = vs.length → (∀ (i:Nat) (p:PVal) (v:Value),ps[i]? = some p → vs[i]? = some v → Rep w (okn ok m) D m cl p v) → vs = ps.map leafVal:=by
  intro ks
  induction ks with
  | nil =>
   intro ps vs b hb hl _
   obtain ⟨e1,_⟩:=flatEq_len hb
   obtain rfl:=List.eq_nil_of_length_eq_zero e1
   obtain rfl:=List.eq_nil_of_length_eq_zero hl.symm
   rfl
  | cons k ks ih =>
   intro ps vs b hb hl hr
   match ps,vs,hl with
   | [],_,_=>simp [flatEq] at hb
   | p :: ps,v :: vs,hl =>
    simp only [flatEq] at hb
    split at hb
    ·rename_i hk
     split at hb
     ·rename_i a b' h1 h2
      rw [leaf_of (hr 0 p v rfl rfl) hk.1,ih ps vs b' h2 (by simpa using hl) (fun i p v hp hv=>hr (i + 1) p v (by simpa using hp) (by simpa using hv))]
      rfl
     ·cases hb
    ·cases hb
 exact key ks ps vs b hf hl h
theorem equal_flat {kt:TypeId} {fs:Array Field} {ks:List LK} (hk:P.underlying kt = some (.struct fs)) (hks:flatK P 60 kt = some ks) {ps qs:List PVal} {b:Bool} (h:flatEq ks ps qs = some b) (w:World) :
  (Op.equal kt (.agg (ps.map leafVal).toArray) (.agg (qs.map leafVal).toArray)).run P w = .ok b w:=by
 have ht : ∀ l,tv P kt l = .agg (l.map leafVal).toArray:=fun l=>by simp [tv,hk,isAggD]
 have:=eqFlat_run P 60 10000 (by decide) kt ks hks ps qs b h w
 rw [ht,ht] at this
 exact this
theorem findF_spec {kt:TypeId} {fs:Array Field} {ks:List LK} (hk:P.underlying kt = some (.struct fs)) (hks:flatK P 60 kt = some ks) {k:List PVal} : ∀ {kvs:List (PVal × PVal)} {ents:List MapEntry} {a:Option PVal},findF ks k kvs = some a → ents.length = kvs.length →
  (∀ (i:Nat) (k x:PVal),kvs[i]? = some (k,x) → ∃ e,ents[i]? = some e ∧ Rep w (okn ok m) D m true k e.key ∧ Rep w (okn ok m) D m true x e.val) →
  ∃ res,(∀ j w,(Instr.findAsking kt (.agg (k.map leafVal).toArray) ents j).run P w = .ok (res.map fun (x:Nat × Value)=>(x.1 + j,x.2)) w) ∧ (match a with | some x=>∃ i v,res = some (i,v) ∧ Rep w (okn ok m) D m true x v | none=>res = none)
 | [],ents,a,h,hl,_=>by
  simp [findF] at h
  subst h
  obtain rfl:=List.eq_nil_of_length_eq_zero hl
  exact ⟨none,fun j w=>by simp [Instr.findAsking],rfl⟩
 | (kk,x) :: r,ents,a,h,hl,hr=>by
  match ents,hl with
  | e :: es,hl =>
   obtain ⟨e',he',h1,h2⟩:=hr 0 kk x rfl
   simp at he'
   subst he'
   obtain ⟨k',rfl⟩ : ∃ k',kk = .agg k':=by cases kk <;> first | exact ⟨_,rfl⟩ | (simp [findF] at h; done)
   simp only [findF] at h
   split at h
   ·rename_i hb
    injection h with h
    subst h
    have:=flatEq_eq hb
    subst this
    have hkey:=flat_rep hb h1
    refine ⟨some (0,e.val),fun j w=>?_,0,e.val,rfl,h2⟩
    simp only [Instr.findAsking,Sem.run_bind,hkey,equal_flat hk hks hb,Result.andThen_ok]
    simp
   ·rename_i hb
    obtain ⟨b',hb'⟩ : ∃ b',flatEq ks k' k' = some b':=by
     have key : ∀ (ks:List LK) (p q:List PVal) (b:Bool),flatEq ks p q = some b → ∃ b',flatEq ks q q = some b':=by
      intro ks
      induction ks with
      | nil =>
       intro p q b h
       obtain ⟨_,e2⟩:=flatEq_len h
       obtain rfl:=List.eq_nil_of_length_eq_zero e2
       exact ⟨true,rfl⟩
      | cons k ks ih =>
       intro p q b h
       match p,q with
       | [],_=>simp [flatEq] at h
       | _ :: _,[]=>simp [flatEq] at h
       | p :: ps,q :: qs =>
        simp only [flatEq] at h ⊢
        split at h
        ·rename_i hl
         split at h
         ·rename_i a b' g1 g2
          obtain ⟨b2,hb2⟩:=ih ps qs b' g2
          rw [if_pos ⟨hl.2,hl.2⟩,hb2]
          have : ∃ a2,leafEq q q = some a2:=by
           cases k <;> cases q <;> simp [leafIs] at hl <;> simp [leafEq]
          obtain ⟨a2,ha2⟩:=this
          exact ⟨_,by rw [ha2]⟩
         ·cases h
        ·cases h
     exact key ks k k' _ hb
    have hkey:=flat_rep hb' h1
    obtain ⟨res,g1,g2⟩:=findF_spec hk hks h (by simpa using hl) (fun i k x hi=>by have:=hr (i + 1) k x (by simpa using hi); simpa using this)
    refine ⟨res.map fun x=>(x.1 + 1,x.2),fun j w=>?_,?_⟩
    ·simp only [Instr.findAsking,Sem.run_bind,hkey,equal_flat hk hks hb,Result.andThen_ok,Bool.false_eq_true,if_false,g1 (j + 1) w]
     cases res with
     | none=>rfl
     | some y=>simp only [Option.map_some]; congr 3; omega
    ·cases a with
     | none=>simp only at g2 ⊢; rw [g2]; rfl
     | some y =>
      obtain ⟨i,v,rfl,g3⟩:=g2
      exact ⟨i + 1,v,rfl,g3⟩
   ·cases h
  | [],hl=>simp at hl
theorem findKey_flat {kt:TypeId} {fs:Array Field} (hk:P.underlying kt = some (.struct fs)) {xs:Array Value} {es:List MapEntry} {res:Option (Nat × Value)} (h : ∀ w,(Instr.findAsking kt (.agg xs) es 0).run P w = .ok res w) (w:World) :
  (Instr.findKey kt (.agg xs) es).run P w = .ok res w:=by
 unfold Instr.findKey
 simp only [Sem.run_bind,run_underlying hk,Result.andThen_ok]
 cases es with
 | nil =>
  have:=h w
  simp [Instr.findAsking] at this
  subst this
  simp [Instr.findNow]
 | cons e es =>
  have:Instr.findNow (.struct fs) (.agg xs) (e :: es) 0 = none:=by simp [Instr.findNow,Instr.sameNow]
  rw [this]
  exact h w
theorem core_lookupF {t kt e:TypeId} {x i:Operand} {c:Bool} {fs:Array Field} {ie:TypeInfo} {ks:List LK} {z:Value} {zp p q:PVal} (h:o.op = .lookup t x i c) (ht:P.underlying t = some (.map kt e)) (hk:P.underlying kt = some (.struct fs)) (hi:P.info? e = some ie) (hks:flatK P 60 kt = some ks) (hz:ie.zero = some z) (hzp:ofConst z = some zp)
  (hH:SimH D m ok heap w) (hx:Rep w (okn ok m) D m false p (ρ x)) (hy:Rep w (okn ok m) D m false q (ρ i)) (hc:core (.lookupF zp c ks) [p,q] heap nx = some r):Out P o ρ D m ok heap w r:=by
 have hzr : ∀ {cc:Bool},Rep w (okn ok m) D m cc zp z:=ofConst_rep hzp
 have hres : ∀ (y:PVal) (v:Value) (b:Bool),Rep w (okn ok m) D m false y v → Rep w (okn ok m) D m false (if c then .tup [y,.bool b] else y) (if c then .tuple #[v,.bool b] else v):=by
  intro y v b hv
  cases c
  ·exact hv
  ·exact Rep.tup (cs:=[y,.bool b]) (vs:=[v,.bool b]) rfl (Reps.cons hv (Reps.cons .bool (Reps.nil ..))).2
 have htv : ∀ l,tv P kt l = .agg (l.map leafVal).toArray:=fun l=>by simp [tv,hk,isAggD]
 cases p <;> cases q <;> simp only [core,coreLF] at hc <;> try (cases hc; done)
 rename_i id kk
 cases ho:heap id with
 | none=>simp [ho] at hc
 | some ob =>
  cases ob <;> simp only [ho] at hc <;> try (cases hc; done)
  rename_i kvs
  split at hc
  ·rename_i hl
   obtain ⟨b0,hb0⟩:=Option.isSome_iff_exists.1 hl
   have hkv:=flat_rep hb0 hy
   obtain ⟨B,hB,hob⟩:=hH.obj id _ ho
   cases B with
   | nil=>exact hob.elim
   | «at» b tt =>
    obtain ⟨ents,clock,g1,g2,g3⟩:=hob
    cases hx with
    | mapr _ _ hp =>
     have hxv:=hp b tt hB
     have hck : ∀ em w,(Instr.checkKey em 10000 kt (ρ i)).run P w = .ok () w:=fun em w=>by
      have:=checkFlat_run P em 60 10000 (by decide) kt ks hks kk b0 hb0 w
      rw [htv] at this
      rw [hkv]
      exact this
     have hrun : ∀ (res:Option (Nat × Value)),(∀ w,(Instr.findAsking kt (ρ i) ents.toList 0).run P w = .ok res w) → (execOp ρ o).run P w = .ok (.value (if c then .tuple #[(res.map (·.2)).getD z,.bool res.isSome] else (res.map (·.2)).getD z)) w:=by
      intro res hres
      have hfk:(Instr.findKey kt (ρ i) ents.toList).run P w = .ok res w:=by rw [hkv] at hres ⊢; exact findKey_flat hk hres w
      rw [exec_lookup h,hxv]
      unfold Instr.lookup
      simp only [Sem.run_bind,run_underlying ht,Result.andThen_ok,MapKept.run_getObj_map g1,Sem.run_pure,hck,hfk]
      cases res with
      | none =>
       simp only [Result.andThen_ok,Sem.run_bind,zero_run hi hz,Sem.run_pure]
       cases c <;> rfl
      | some y =>
       simp only [Result.andThen_ok,Sem.run_bind,Sem.run_pure]
       cases c <;> rfl
     have fin : ∀ {a:Option PVal},findF ks kk kvs = some a → ∃ res,(∀ w,(Instr.findAsking kt (ρ i) ents.toList 0).run P w = .ok res w) ∧ (∀ x,a = some x → ∃ i v,res = some (i,v) ∧ Rep w (okn ok m) D m true x v) ∧ (a = none → res = none):=by
      intro a hf
      obtain ⟨res,f1,f2⟩:=findF_spec (m:=m) (ok:=ok) (D:=D) (w:=w) hk hks hf (by rw [Array.length_toList]; exact g2) (fun i k x h=>by have:=g3 i k x h; simpa using this)
      refine ⟨res,fun w=>?_,fun x e=>by subst e; exact f2,fun e=>by subst e; exact f2⟩
      rw [hkv,f1 0 w]
      cases res <;> rfl
     split at hc
     ·rename_i y hf
      injection hc with hc
      subst hc
      obtain ⟨res,f1,f3,_⟩:=fin hf
      obtain ⟨i',v,rfl,f2⟩:=f3 y rfl
      exact Out.pure hH [id] (hrun _ f1) (hres y v true f2.opened)
     ·rename_i hf
      injection hc with hc
      subst hc
      obtain ⟨res,f1,_,f3⟩:=fin hf
      obtain rfl:=f3 rfl
      exact Out.pure hH [id] (hrun _ f1) (hres zp z false hzr)
     ·cases hc
  ·cases hc
theorem setF_spec {kt:TypeId} {fs:Array Field} {ks:List LK} (hk:P.underlying kt = some (.struct fs)) (hks:flatK P 60 kt = some ks) {k:List PVal} {x:PVal} : ∀ {kvs kvs':List (PVal × PVal)} {ents:List MapEntry},setF ks k x kvs = some kvs' → ents.length = kvs.length →
  (∀ (i:Nat) (k x:PVal),kvs[i]? = some (k,x) → ∃ e,ents[i]? = some e ∧ Rep w (okn ok m) D m true k e.key ∧ Rep w (okn ok m) D m true x e.val) →
  (∃ i v e,findF ks k kvs = some (some v) ∧ (∃ v',∀ w,(Instr.findAsking kt (.agg (k.map leafVal).toArray) ents 0).run P w = .ok (some (i,v')) w) ∧ ents[i]? = some e ∧ e.key = .agg (k.map leafVal).toArray ∧ kvs' = kvs.set i (.agg k,x)) ∨
  ((∀ w,(Instr.findAsking kt (.agg (k.map leafVal).toArray) ents 0).run P w = .ok none w) ∧ kvs' = kvs ++ [(.agg k,x)]):=by
 intro kvs kvs' ents hs hl hr
 have key : ∀ (kvs kvs':List (PVal × PVal)),setF ks k x kvs = some kvs' → (∃ i v,findF ks k kvs = some (some v) ∧ i < kvs.length ∧ kvs' = kvs.set i (.agg k,x) ∧ (∃ v0,kvs[i]? = some (.agg k,v0)) ∧ ∀ (ents:List MapEntry),ents.length = kvs.length →
   (∀ (i:Nat) (k x:PVal),kvs[i]? = some (k,x) → ∃ e,ents[i]? = some e ∧ Rep w (okn ok m) D m true k e.key ∧ Rep w (okn ok m) D m true x e.val) → ∃ e,ents[i]? = some e ∧ ∀ j w,(Instr.findAsking kt (.agg (k.map leafVal).toArray) ents j).run P w = .ok (some (i + j,e.val)) w ∧ e.key = .agg (k.map leafVal).toArray) ∨
   (findF ks k kvs = some none ∧ kvs' = kvs ++ [(.agg k,x)]):=by
  intro kvs
  induction kvs with
  | nil=>intro kvs' h; simp [setF] at h; subst h; exact .inr ⟨rfl,rfl⟩
  | cons a kvs ih =>
   obtain ⟨kk,y⟩:=a
   intro kvs' h
   obtain ⟨k',rfl⟩ : ∃ k',kk = .agg k':=by cases kk <;> first | exact ⟨_,rfl⟩ | (simp [setF] at h; done)
   simp only [setF] at h
   split at h
   ·rename_i hb
    injection h with h
    subst h
    have:=flatEq_eq hb
    subst this
    refine .inl ⟨0,y,by simp [findF,hb],by simp,rfl,⟨y,rfl⟩,fun ents hl hr=>?_⟩
    match ents,hl with
    | e :: es,hl =>
     obtain ⟨e',he',h1,h2⟩:=hr 0 _ y rfl
     simp at he'
     subst he'
     have hkey:=flat_rep hb h1
     refine ⟨e,rfl,fun j w=>⟨?_,hkey⟩⟩
     simp only [Instr.findAsking,Sem.run_bind,hkey,equal_flat hk hks hb,Result.andThen_ok]
     simp
    | [],hl=>simp at hl
   ·rename_i hb
    split at h
    ·rename_i l hl'
     injection h with h
     subst h
     rcases ih l hl' with ⟨i,v,a1,a2,a3,⟨v0,a4⟩,a5⟩ | ⟨a1,a2⟩
     ·refine .inl ⟨i + 1,v,by simp [findF,hb,a1],by simpa using a2,by rw [a3]; rfl,⟨v0,by simpa using a4⟩,fun ents hl hr=>?_⟩
      match ents,hl with
      | e :: es,hl =>
       obtain ⟨e',he',h1,h2⟩:=hr 0 _ y rfl
       simp at he'
       subst he'
       obtain ⟨res,f1,_⟩:=findF_spec (m:=m) (ok:=ok) (D:=D) (w:=w) hk hks (k:=k) (kvs:=[(.agg k',y)]) (ents:=[e]) (a:=none) (by simp [findF,hb]) rfl (fun i k x hi=>by
        cases i with
        | zero=>simp at hi; obtain ⟨rfl,rfl⟩:=hi; exact ⟨e,rfl,h1,h2⟩
        | succ i=>simp at hi)
       obtain ⟨e2,b1,b2⟩:=a5 es (by simpa using hl) (fun i k x hi=>by have:=hr (i + 1) k x (by simpa using hi); simpa using this)
       refine ⟨e2,by simpa using b1,fun j w=>⟨?_,(b2 0 w).2⟩⟩
       have hne : ∀ w,(Op.equal kt (.agg (k.map leafVal).toArray) e.key).run P w = .ok false w:=by
        intro w
        have hkk : ∃ b',flatEq ks k' k' = some b':=by
         obtain ⟨c1,c2⟩:=flatEq_len hb
         have sw : ∀ (ks:List LK) (p q:List PVal) (b:Bool),flatEq ks p q = some b → ∃ b',flatEq ks q q = some b':=by
          intro ks
          induction ks with
          | nil =>
           intro p q b h
           obtain ⟨_,e2⟩:=flatEq_len h
           obtain rfl:=List.eq_nil_of_length_eq_zero e2
           exact ⟨true,rfl⟩
          | cons k ks ih =>
           intro p q b h
           match p,q with
           | [],_=>simp [flatEq] at h
           | _ :: _,[]=>simp [flatEq] at h
           | p :: ps,q :: qs =>
            simp only [flatEq] at h ⊢
            split at h
            ·rename_i hl
             split at h
             ·rename_i a b' g1 g2
              obtain ⟨b2,hb2⟩:=ih ps qs b' g2
              rw [if_pos ⟨hl.2,hl.2⟩,hb2]
              have : ∃ a2,leafEq q q = some a2:=by
               cases k <;> cases q <;> simp [leafIs] at hl <;> simp [leafEq]
              obtain ⟨a2,ha2⟩:=this
              exact ⟨_,by rw [ha2]⟩
             ·cases h
            ·cases h
         exact sw ks k k' _ hb
        obtain ⟨b',hb'⟩:=hkk
        rw [flat_rep hb' h1]
        exact equal_flat hk hks hb w
       simp only [Instr.findAsking,Sem.run_bind,hne,Result.andThen_ok,Bool.false_eq_true,if_false,(b2 (j + 1) w).1]
       congr 3
       omega
      | [],hl=>simp at hl
     ·exact .inr ⟨by simp [findF,hb,a1],by rw [a2]; rfl⟩
    ·cases h
   ·cases h
 rcases key kvs kvs' hs with ⟨i,v,a1,a2,a3,a4,a5⟩ | ⟨a1,a2⟩
 ·obtain ⟨e,b1,b2⟩:=a5 ents hl hr
  exact .inl ⟨i,v,e,a1,⟨e.val,fun w=>(b2 0 w).1⟩,b1,(b2 0 w).2,a3⟩
 ·obtain ⟨res,f1,f2⟩:=findF_spec hk hks a1 hl hr
  simp only at f2
  subst f2
  exact .inr ⟨fun w=>f1 0 w,a2⟩
theorem sameBits_flat : ∀ {ks:List LK} {ps:List PVal} {b:Bool},flatEq ks ps ps = some b → ∀ n,Instr.sameBits (n + 1) (.agg (ps.map leafVal).toArray) (.agg (ps.map leafVal).toArray) = true:=by
 intro ks ps b h n
 have key : ∀ (ks:List LK) (ps:List PVal) (b:Bool),flatEq ks ps ps = some b → (((ps.map leafVal).zip (ps.map leafVal)).all fun (x,y)=>Instr.sameBits n x y) = true:=by
  intro ks
  induction ks with
  | nil =>
   intro ps b h
   obtain ⟨e1,_⟩:=flatEq_len h
   obtain rfl:=List.eq_nil_of_length_eq_zero e1
   rfl
  | cons k ks ih =>
   intro ps b h
   match ps with
   | []=>simp [flatEq] at h
   | p :: ps =>
    simp only [flatEq] at h
    split at h
    ·rename_i hl
     split at h
     ·rename_i a b' g1 g2
      simp only [List.map_cons,List.zip_cons_cons,List.all_cons,sameBits_leaf hl.1,ih ps b' g2,Bool.and_self]
     ·cases h
    ·cases h
 simp only [Instr.sameBits,List.toList_toArray,beq_self_eq_true,Bool.true_and]
 exact key ks ps b h
theorem core_mapsetF {t kt e:TypeId} {x i v:Operand} {fs:Array Field} {ks:List LK} {p q y:PVal} (h:o.op = .mapUpdate t x i v ∨ o.op = .insert t x i v) (ht:P.underlying t = some (.map kt e)) (hk:P.underlying kt = some (.struct fs)) (hks:flatK P 60 kt = some ks)
  (hH:SimH D m ok heap w) (hx:Rep w (okn ok m) D m false p (ρ x)) (hq:Rep w (okn ok m) D m false q (ρ i)) (hy:Rep w (okn ok m) D m false y (ρ v)) (hc:core (.mapsetF ks) [p,q,y] heap nx = some r):Out P o ρ D m ok heap w r:=by
 have htv : ∀ l,tv P kt l = .agg (l.map leafVal).toArray:=fun l=>by simp [tv,hk,isAggD]
 cases p <;> cases q <;> simp only [core,coreSF] at hc <;> try (cases hc; done)
 rename_i id kk
 cases ho:heap id with
 | none=>simp [ho] at hc
 | some ob =>
  cases ob <;> simp only [ho] at hc <;> try (cases hc; done)
  rename_i kvs
  split at hc
  ·rename_i hcond
   obtain ⟨hl,hcl⟩:=hcond
   obtain ⟨b0,hb0⟩:=Option.isSome_iff_exists.1 hl
   have hkv:=flat_rep hb0 hq
   split at hc
   ·rename_i l hset
    injection hc with hc
    subst hc
    obtain ⟨B,hB,hob⟩:=hH.obj id _ ho
    cases B with
    | nil=>exact hob.elim
    | «at» b tt =>
     obtain ⟨ents,clock,g1,g2,g3⟩:=hob
     have hlt:b < w.heap.size:=hH.lt id b tt hB
     cases hx with
     | mapr _ _ hp =>
      have hxv:=hp b tt hB
      have hyc:=hy.close hcl
      have hck : ∀ em w,(Instr.checkKey em 10000 kt (ρ i)).run P w = .ok () w:=fun em w=>by
       have:=checkFlat_run P em 60 10000 (by decide) kt ks hks kk b0 hb0 w
       rw [htv] at this
       rw [hkv]
       exact this
      have hclk:(PVal.agg kk).closed = true:=by
       have key : ∀ (ks:List LK) (ps:List PVal) (b:Bool),flatEq ks ps ps = some b → PVal.closed.go ps = true:=by
        intro ks
        induction ks with
        | nil =>
         intro ps b h
         obtain ⟨e1,_⟩:=flatEq_len h
         obtain rfl:=List.eq_nil_of_length_eq_zero e1
         rfl
        | cons k ks ih =>
         intro ps b h
         match ps with
         | []=>rfl
         | p :: ps =>
          simp only [flatEq] at h
          split at h
          ·rename_i hl
           split at h
           ·rename_i a b' g1 g2
            have:p.closed = true:=by cases k <;> cases p <;> simp [leafIs] at hl <;> rfl
            simp only [PVal.closed.go,this,ih ps b' g2,Bool.and_self]
           ·cases h
          ·cases h
       exact key ks kk b0 hb0
      have hkc:Rep w (okn ok m) D m true (.agg kk) (ρ i):=hq.close hclk
      have step : ∀ {cc:Bool} {p:PVal} {u:Value} {w':World},Step m w m w' → Rep w (okn ok m) D m cc p u → Rep w' (okn ok m) D m cc p u:=fun hst h=>h.step hst (fun _ h=>h) (fun _ _=>.inl rfl)
      rcases setF_spec hk hks hset (by rw [Array.length_toList]; exact g2) (fun i k x h=>by have:=g3 i k x h; simpa using this) with ⟨i',v',e',_,⟨v1,f1⟩,f2,f3,f4⟩ | ⟨f1,f2⟩
      ·refine Out.change hH (B:=.at b tt) (w':={ w with heap:=w.heap.setIfInBounds b (.map (ents.modify i' fun e=>{ e with key:=ρ i,val:=ρ v }) clock) }) hB (.mp l) [id] ?_ rfl rfl rfl (by simp) (fun k hk=>(MapKept.heap_set (o':=.map (ents.modify i' fun e=>{ e with key:=ρ i,val:=ρ v }) clock) g1).2 k hk) (fun hst=>⟨_,_,(MapKept.heap_set g1).1,by rw [f4,List.length_set]; simpa using g2,fun j k x hj=>?_⟩)
       ·rw [exec_mapset h,hxv]
        unfold Instr.mapUpdate
        have hkk:((ents[i']?).map (·.key)).getD (ρ i) = ρ i:=by
         have:ents[i']? = some e':=by simpa using f2
         rw [this]; simp only [Option.map_some,Option.getD_some]; rw [f3,hkv]
        have hstay:(Instr.keyThatStays (ρ i) (ρ i)).run P w = .ok (ρ i) w:=by
         unfold Instr.keyThatStays
         rw [if_pos (by rw [hkv]; exact sameBits_flat hb0 _)]
         rfl
        have hfk:(Instr.findKey kt (ρ i) ents.toList).run P w = .ok (some (i',v1)) w:=by rw [hkv]; exact findKey_flat hk f1 w
        simp only [Sem.run_bind,run_underlying ht,Result.andThen_ok,MapKept.run_getObj_map g1,hck,hfk,hkk,hstay,MapKept.run_setObj_map _ g1]
       ·rw [f4,List.getElem?_set] at hj
        rw [Array.getElem?_modify]
        by_cases hij:i' = j
        ·subst hij
         have he':ents[i']? = some e':=by simpa using f2
         have hlen:i' < kvs.length:=by rw [← g2]; exact (Array.getElem?_eq_some_iff.1 he').1
         simp only [if_true,hlen] at hj
         injection hj with hj
         injection hj with e1 e2
         subst e1 e2
         simp only [if_true,he',Option.map_some]
         exact ⟨_,rfl,step hst hkc,step hst hyc⟩
        ·simp only [hij,if_false] at hj ⊢
         obtain ⟨e2,a1,a2,a3⟩:=g3 j k x hj
         exact ⟨e2,by simpa using a1,step hst a2,step hst a3⟩
      ·refine Out.change hH (B:=.at b tt) (w':={ w with heap:=w.heap.setIfInBounds b (.map (ents.push { key:=ρ i,val:=ρ v,born:=clock }) (clock + 1)) }) hB (.mp l) [id] ?_ rfl rfl rfl (by simp) (fun k hk=>(MapKept.heap_set (o':=.map (ents.push { key:=ρ i,val:=ρ v,born:=clock }) (clock + 1)) g1).2 k hk) (fun hst=>⟨_,_,(MapKept.heap_set g1).1,by rw [f2]; simp [g2],fun j k x hj=>?_⟩)
       ·rw [exec_mapset h,hxv]
        unfold Instr.mapUpdate
        have hfk:(Instr.findKey kt (ρ i) ents.toList).run P w = .ok none w:=by rw [hkv]; exact findKey_flat hk f1 w
        simp only [Sem.run_bind,run_underlying ht,Result.andThen_ok,MapKept.run_getObj_map g1,hck,hfk,MapKept.run_setObj_map _ g1]
       ·rw [f2] at hj
        rw [Array.getElem?_push]
        by_cases hij:j < kvs.length
        ·rw [List.getElem?_append_left hij] at hj
         rw [if_neg (by omega)]
         obtain ⟨e2,a1,a2,a3⟩:=g3 j k x hj
         exact ⟨e2,a1,step hst a2,step hst a3⟩
        ·have hjl:j = kvs.length:=by
          have:=(List.getElem?_eq_some_iff.1 hj).1
          simp at this; omega
         subst hjl
         simp only [List.getElem?_append_right (Nat.le_refl _),Nat.sub_self,List.getElem?_cons_zero,Option.some.injEq,Prod.mk.injEq] at hj
         obtain ⟨rfl,rfl⟩:=hj
         rw [if_pos g2.symm]
         exact ⟨_,rfl,step hst hkc,step hst hyc⟩
   ·cases hc
  ·cases hc
theorem delP_spec {d:TypeDesc} {lk:LK} (hd:LKof d = some lk) {k:PVal} (hk:leafIs lk k = true) : ∀ {kvs kvs':List (PVal × PVal)} {ents:List MapEntry},delP lk k kvs = some kvs' → ents.length = kvs.length →
  (∀ (i:Nat) (k x:PVal),kvs[i]? = some (k,x) → ∃ e,ents[i]? = some e ∧ Rep w (okn ok m) D m true k e.key ∧ Rep w (okn ok m) D m true x e.val) →
  (∃ i v,i < ents.length ∧ Instr.findNow d (leafVal k) ents 0 = some (some (i,v)) ∧ kvs' = kvs.eraseIdx i) ∨ (Instr.findNow d (leafVal k) ents 0 = some none ∧ kvs' = kvs)
 | [],kvs',ents,h,hl,_=>by
  simp [delP] at h
  subst h
  obtain rfl:=List.eq_nil_of_length_eq_zero hl
  exact .inr ⟨rfl,rfl⟩
 | (k',y) :: r,kvs',ents,h,hl,hr=>by
  match ents,hl with
  | e :: es,hl =>
   simp only [delP] at h
   split at h
   ·rename_i hk'
    obtain ⟨e',he',h1,h2⟩:=hr 0 k' y rfl
    simp at he'
    subst he'
    have hkey:=leaf_of h1 hk'
    split at h
    ·rename_i hb
     injection h with h
     subst h
     refine .inl ⟨0,e.val,by simp,?_,rfl⟩
     simp only [Instr.findNow,hkey,sameNow_leaf hd hk hk' hb]
    ·rename_i hb
     split at h
     ·rename_i l hl'
      injection h with h
      subst h
      rcases delP_spec hd hk hl' (by simpa using hl) (fun i k x hi=>by have:=hr (i + 1) k x (by simpa using hi); simpa using this) with ⟨i,v,g1,g2,g3⟩ | ⟨g1,g2⟩
      ·refine .inl ⟨i + 1,v,by simpa using g1,?_,by rw [g3]; rfl⟩
       simp only [Instr.findNow,hkey,sameNow_leaf hd hk hk' hb]
       exact findNow_shift es 1 _ g2
      ·refine .inr ⟨?_,by rw [g2]⟩
       simp only [Instr.findNow,hkey,sameNow_leaf hd hk hk' hb]
       exact findNow_shift es 1 _ g1
     ·cases h
    ·cases h
   ·cases h
  | [],hl=>simp at hl
theorem core_mapdel {args:Array Operand} {ats:Array TypeId} {x i:Operand} {t kt e:TypeId} {d:TypeDesc} {lk:LK} {rest:List TypeId} {p q:PVal} (h:o.op = .call { callee:=.builtin .delete,args,argTypes:=ats }) (ha:args.toList = [x,i]) (hat:ats.toList = t :: rest)
  (ht:P.underlying t = some (.map kt e)) (hk:P.underlying kt = some d) (hlk:LKof d = some lk)
  (hH:SimH D m ok heap w) (hx:Rep w (okn ok m) D m false p (ρ x)) (hq:Rep w (okn ok m) D m false q (ρ i)) (hc:core (.mapdel lk) [p,q] heap nx = some r):Out P o ρ D m ok heap w r:=by
 have ha':args = #[x,i]:=by rw [← Array.toArray_toList (xs:=args),ha]
 have hat':ats[0]? = some t:=by rw [← Array.getElem?_toList,hat]; rfl
 cases p <;> simp only [core,coreDel] at hc <;> try (cases hc; done)
 rename_i id
 cases ho:heap id with
 | none=>simp [ho] at hc
 | some ob =>
  cases ob <;> simp only [ho] at hc <;> try (cases hc; done)
  rename_i kvs
  split at hc
  ·rename_i hl
   have hkv:=leaf_of hq hl
   split at hc
   ·rename_i l hdel
    injection hc with hc
    subst hc
    obtain ⟨B,hB,hob⟩:=hH.obj id _ ho
    cases B with
    | nil=>exact hob.elim
    | «at» b tt =>
     obtain ⟨ents,clock,g1,g2,g3⟩:=hob
     have hlt:b < w.heap.size:=hH.lt id b tt hB
     cases hx with
     | mapr _ _ hp =>
      have hxv:=hp b tt hB
      have hik:MapKept.IsKey d (ρ i):=by rw [hkv]; exact isKey_leaf hlk hl
      have step : ∀ {cc:Bool} {p:PVal} {u:Value} {w':World},Step m w m w' → Rep w (okn ok m) D m cc p u → Rep w' (okn ok m) D m cc p u:=fun hst h=>h.step hst (fun _ h=>h) (fun _ _=>.inl rfl)
      rcases delP_spec hlk hl hdel (by rw [Array.length_toList]; exact g2) (fun i k x h=>by have:=g3 i k x h; simpa using this) with ⟨i',v',f0,f1,f2⟩ | ⟨f1,f2⟩
      ·refine Out.wrote hH (w':={ w with heap:=w.heap.setIfInBounds b (.map (ents.eraseIdxIfInBounds i') clock) }) hB (.mp l) [id] (v:=.tuple #[]) ?_ rfl rfl rfl (by simp) (fun k hk=>(MapKept.heap_set (o':=.map (ents.eraseIdxIfInBounds i') clock) g1).2 k hk) (fun hst=>⟨_,_,(MapKept.heap_set g1).1,by rw [f2,List.length_eraseIdx,if_pos (by rw [← g2]; simpa using f0),Array.eraseIdxIfInBounds,dif_pos (by simpa using f0),Array.size_eraseIdx,g2],fun j k x hj=>?_⟩) .hole
       ·unfold execOp
        simp only [h,ha']
        simp [resolve,invoke,builtin,Builtin.delete_,hat',run_underlying ht,hxv,Sem.run_bind,MapKept.run_getObj_map g1,MapKept.run_checkKey hk hik,MapKept.run_findKey hk (hkv ▸ f1),MapKept.run_setObj_map _ g1]
       ·have f0':i' < ents.size:=by simpa using f0
        have hee:(ents.eraseIdxIfInBounds i')[j]? = if j < i' then ents[j]? else ents[j + 1]?:=by rw [Array.eraseIdxIfInBounds,dif_pos f0',Array.getElem?_eraseIdx]
        rw [f2,List.getElem?_eraseIdx] at hj
        rw [hee]
        by_cases hji:j < i'
        ·rw [if_pos hji] at hj ⊢
         obtain ⟨e2,a1,a2,a3⟩:=g3 j k x hj
         exact ⟨e2,a1,step hst a2,step hst a3⟩
        ·rw [if_neg hji] at hj ⊢
         obtain ⟨e2,a1,a2,a3⟩:=g3 (j + 1) k x hj
         exact ⟨e2,a1,step hst a2,step hst a3⟩
      ·refine Out.wrote hH (w':={ w with heap:=w.heap.setIfInBounds b (.map ents clock) }) hB (.mp l) [id] (v:=.tuple #[]) ?_ rfl rfl rfl (by simp) (fun k hk=>(MapKept.heap_set (o':=.map ents clock) g1).2 k hk) (fun hst=>⟨_,_,(MapKept.heap_set g1).1,by rw [f2]; exact g2,fun j k x hj=>?_⟩) .hole
       ·unfold execOp
        simp only [h,ha']
        simp [resolve,invoke,builtin,Builtin.delete_,hat',run_underlying ht,hxv,Sem.run_bind,MapKept.run_getObj_map g1,MapKept.run_checkKey hk hik,MapKept.run_findKey hk (hkv ▸ f1),MapKept.run_setObj_map _ g1]
       ·rw [f2] at hj
        obtain ⟨e2,a1,a2,a3⟩:=g3 j k x hj
        exact ⟨e2,a1,step hst a2,step hst a3⟩
   ·cases hc
  ·cases hc
end
end Go.Proofs.YtakallenldpkiaaGreatDoor.Abs
