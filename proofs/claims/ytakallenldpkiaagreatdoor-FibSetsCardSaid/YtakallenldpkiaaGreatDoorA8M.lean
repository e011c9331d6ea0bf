/- Maps whose keys are leaves: what making, looking up and setting do. Generic over any program. -/
import Derived.MapKept
import Derived.Test.YtakallenldpkiaaGreatDoorA8A
set_option linter.unusedVariables false
set_option linter.unusedSimpArgs false
set_option linter.unusedSectionVars false
namespace Go.Proofs.YtakallenldpkiaaGreatDoor.Abs
open Go
variable [DqC]
theorem str_eq {a b:ByteArray} (h:(a == b) = true):a = b:=by
 cases a; cases b
 rename_i a b
 have:(a == b) = true:=h
 rw [eq_of_beq this]
theorem str_refl (a:ByteArray):(a == a) = true:=by
 cases a
 rename_i a
 exact (beq_self_eq_true a:(a == a) = true)
section
variable {P:Program} {o:Oper} {ρ:Operand → Value} {D:AId → Prop} {m:AId → Option Blk} {ok:Nat → Prop} {heap:AId → Option AObj} {w:World} {nx:AId} {r:R}
theorem isKey_leaf {d:TypeDesc} {lk:LK} (hd:LKof d = some lk) {p:PVal} (hp:leafIs lk p = true):MapKept.IsKey d (leafVal p):=by
 cases d <;> simp [LKof] at hd <;> subst hd <;> cases p <;> simp [leafIs] at hp <;> simp [MapKept.IsKey,leafVal]
 exact hp.symm
theorem sameNow_leaf {d:TypeDesc} {lk:LK} (hd:LKof d = some lk) {p q:PVal} {b:Bool} (hp:leafIs lk p = true) (hq:leafIs lk q = true) (hb:leafEq p q = some b):Instr.sameNow d (leafVal p) (leafVal q) = some b:=by
 cases d <;> simp [LKof] at hd <;> subst hd <;> cases p <;> simp [leafIs] at hp <;> cases q <;> simp [leafIs] at hq <;> simp [leafEq] at hb <;> simp [Instr.sameNow,leafVal]
 ·exact hb
 ·subst hp hq
  simp at hb ⊢
  rw [← hb]
  rfl
 ·exact hb
theorem findNow_shift {d:TypeDesc} {k:Value} : ∀ (es:List MapEntry) (j:Nat) (res:Option (Nat × Value)),Instr.findNow d k es 0 = some res → Instr.findNow d k es j = some (res.map fun x=>(x.1 + j,x.2)):=by
 have key : ∀ (es:List MapEntry) (i j:Nat) (res:Option (Nat × Value)),Instr.findNow d k es i = some res → Instr.findNow d k es (i + j) = some (res.map fun x=>(x.1 + j,x.2)):=by
  intro es
  induction es with
  | nil=>intro i j res h; simp [Instr.findNow] at h ⊢; subst h; rfl
  | cons e es ih =>
   intro i j res h
   unfold Instr.findNow at h ⊢
   cases hs:Instr.sameNow d k e.key with
   | none=>simp [hs] at h
   | some b =>
    cases b with
    | true=>simp only [hs,Option.some.injEq] at h ⊢; subst h; rfl
    | false =>
     simp only [hs] at h ⊢
     have:=ih (i + 1) j res h
     rwa [show i + 1 + j = i + j + 1 by omega] at this
 intro es j res h
 have:=key es 0 j res h
 rwa [Nat.zero_add] at this
theorem findP_spec {d:TypeDesc} {lk:LK} (hd:LKof d = some lk) {k:PVal} (hk:leafIs lk k = true) : ∀ {kvs:List (PVal × PVal)} {ents:List MapEntry} {a:Option PVal},findP lk k kvs = some a → ents.length = kvs.length →
  (∀ (i:Nat) (k x:PVal),kvs[i]? = some (k,x) → ∃ e,ents[i]? = some e ∧ Rep w (okn ok m) D m true k e.key ∧ Rep w (okn ok m) D m true x e.val) →
  ∃ res,Instr.findNow d (leafVal k) ents 0 = some res ∧ (match a with | some x=>∃ i v,res = some (i,v) ∧ Rep w (okn ok m) D m true x v | none=>res = none)
 | [],ents,a,h,hl,_=>by
  simp [findP] at h
  subst h
  obtain rfl:=List.eq_nil_of_length_eq_zero hl
  exact ⟨none,rfl,rfl⟩
 | (k',x) :: r,ents,a,h,hl,hr=>by
  match ents,hl with
  | e :: es,hl =>
   simp only [findP] at h
   split at h
   ·rename_i hk'
    obtain ⟨e',he',h1,h2⟩:=hr 0 k' x rfl
    simp at he'
    subst he'
    have hkey:=leaf_of h1 hk'
    split at h
    ·rename_i hb
     injection h with h
     subst h
     refine ⟨some (0,e.val),?_,0,e.val,rfl,h2⟩
     simp only [Instr.findNow,hkey,sameNow_leaf hd hk hk' hb]
    ·rename_i hb
     obtain ⟨res,g1,g2⟩:=findP_spec hd hk h (by simpa using hl) (fun i k x hi=>by have:=hr (i + 1) k x (by simpa using hi); simpa using this)
     refine ⟨res.map fun x=>(x.1 + 1,x.2),?_,?_⟩
     ·simp only [Instr.findNow,hkey,sameNow_leaf hd hk hk' hb]
      exact findNow_shift es 1 res g1
     ·cases a with
      | none=>simp only at g2 ⊢; rw [g2]; rfl
      | some y =>
       obtain ⟨i,v,rfl,g3⟩:=g2
       exact ⟨i + 1,v,rfl,g3⟩
    ·cases h
   ·cases h
  | [],hl=>simp at hl
theorem leafEq_eq {lk:LK} {p q:PVal} (hp:leafIs lk p = true) (hq:leafIs lk q = true) (h:leafEq p q = some true):p = q:=by
 cases lk <;> cases p <;> simp [leafIs] at hp <;> cases q <;> simp [leafIs] at hq <;> simp [leafEq] at h
 ·obtain ⟨rfl,rfl⟩:=h; rfl
 ·rw [h]
 ·rw [str_eq h]
theorem setP_spec {d:TypeDesc} {lk:LK} (hd:LKof d = some lk) {k x:PVal} (hk:leafIs lk k = true) : ∀ {kvs kvs':List (PVal × PVal)} {ents:List MapEntry},setP lk k x kvs = some kvs' → ents.length = kvs.length →
  (∀ (i:Nat) (k x:PVal),kvs[i]? = some (k,x) → ∃ e,ents[i]? = some e ∧ Rep w (okn ok m) D m true k e.key ∧ Rep w (okn ok m) D m true x e.val) →
  (∃ i v e,Instr.findNow d (leafVal k) ents 0 = some (some (i,v)) ∧ ents[i]? = some e ∧ e.key = leafVal k ∧ kvs' = kvs.set i (k,x)) ∨ (Instr.findNow d (leafVal k) ents 0 = some none ∧ kvs' = kvs ++ [(k,x)])
 | [],kvs',ents,h,hl,_=>by
  simp [setP] at h
  subst h
  obtain rfl:=List.eq_nil_of_length_eq_zero hl
  exact .inr ⟨rfl,rfl⟩
 | (k',y) :: r,kvs',ents,h,hl,hr=>by
  match ents,hl with
  | e :: es,hl =>
   simp only [setP] at h
   split at h
   ·rename_i hk'
    obtain ⟨e',he',h1,h2⟩:=hr 0 k' y rfl
    simp at he'
    subst he'
    have hkey:=leaf_of h1 hk'
    split at h
    ·rename_i hb
     injection h with h
     subst h
     have:=leafEq_eq hk hk' hb
     refine .inl ⟨0,e.val,e,?_,rfl,by rw [hkey,this],rfl⟩
     simp only [Instr.findNow,hkey,sameNow_leaf hd hk hk' hb]
    ·rename_i hb
     split at h
     ·rename_i l hl'
      injection h with h
      subst h
      rcases setP_spec hd hk hl' (by simpa using hl) (fun i k x hi=>by have:=hr (i + 1) k x (by simpa using hi); simpa using this) with ⟨i,v,e2,g1,g2,g3,g4⟩ | ⟨g1,g2⟩
      ·refine .inl ⟨i + 1,v,e2,?_,by simpa using g2,g3,by rw [g4]; rfl⟩
       simp only [Instr.findNow,hkey,sameNow_leaf hd hk hk' hb]
       exact findNow_shift es 1 _ g1
      ·refine .inr ⟨?_,by rw [g2]; rfl⟩
       simp only [Instr.findNow,hkey,sameNow_leaf hd hk hk' hb]
       exact findNow_shift es 1 _ g1
     ·cases h
    ·cases h
   ·cases h
  | [],hl=>simp at hl
theorem core_mkmap {t:TypeId} (h:o.op = .makeMap t none) (hH:SimH D m ok heap w) (hnx : ¬ D nx) (hc:core .mkmap [] heap nx = some r):Out P o ρ D m ok heap w r:=by
 simp only [core,Option.some.injEq] at hc
 subst hc
 refine Out.new hH hnx (v:=.map (some w.heap.size)) (.mp []) (.map #[] 0) 0 [] ?_ (fun m' D' _ _ _=>⟨#[],0,?_,rfl,fun i k x h=>by simp at h⟩) (fun m' D' _ _ _ hd hm=>.mapr hd rfl fun b t e=>?_)
 ·unfold execOp
  simp only [h]
  simp [Instr.makeMap]
 ·exact heap_alloc_new w _
 ·rw [hm] at e
  injection e with e
  injection e with e1 e2
  rw [e1]
theorem exec_lookup {t:TypeId} {x i:Operand} {c:Bool} (h:o.op = .lookup t x i c):(execOp ρ o).run P w = ((Instr.lookup t (ρ x) (ρ i) c).run P w).andThen fun v w'=>.ok (.value v) w':=by
 unfold execOp
 simp only [h]
 simp [Sem.run_bind]
theorem zero_run {e:TypeId} {ie:TypeInfo} {z:Value} (hi:P.info? e = some ie) (hz:ie.zero = some z):(zeroValue e).run P w = .ok z w:=by
 simp [zeroValue,typeInfo,Sem.run_bind,hi,hz]
theorem core_lookup {t kt e:TypeId} {x i:Operand} {c:Bool} {d:TypeDesc} {ie:TypeInfo} {lk:LK} {z:Value} {zp p q:PVal} (h:o.op = .lookup t x i c) (ht:P.underlying t = some (.map kt e)) (hk:P.underlying kt = some d) (hi:P.info? e = some ie) (hlk:LKof d = some lk) (hz:ie.zero = some z) (hzp:ofConst z = some zp)
  (hH:SimH D m ok heap w) (hx:Rep w (okn ok m) D m false p (ρ x)) (hy:Rep w (okn ok m) D m false q (ρ i)) (hc:core (.lookup zp c lk) [p,q] heap nx = some r):Out P o ρ D m ok heap w r:=by
 have hzr : ∀ {cc:Bool},Rep w (okn ok m) D m cc zp z:=ofConst_rep hzp
 have hres : ∀ (y:PVal) (v:Value) (b:Bool),Rep w (okn ok m) D m false y v → Rep w (okn ok m) D m false (if c then .tup [y,.bool b] else y) (if c then .tuple #[v,.bool b] else v):=by
  intro y v b hv
  cases c
  ·exact hv
  ·exact Rep.tup (cs:=[y,.bool b]) (vs:=[v,.bool b]) rfl (Reps.cons hv (Reps.cons .bool (Reps.nil ..))).2
 cases p <;> simp only [core] at hc
 case nilm =>
  split at hc
  ·rename_i hl
   injection hc with hc
   subst hc
   have hxv:ρ x = .map none:=by generalize ρ x = X at hx; cases hx; rfl
   have hkv:=leaf_of hy hl
   refine Out.pure hH [] (v:=if c then .tuple #[z,.bool false] else z) ?_ (hres zp z false hzr)
   rw [exec_lookup h,hxv,hkv]
   unfold Instr.lookup
   simp only [Sem.run_bind,run_underlying ht,Result.andThen_ok,Sem.run_pure,MapKept.run_checkKey hk (isKey_leaf hlk hl)]
   rw [MapKept.run_findKey hk (a:=none) (by simp [Instr.findNow])]
   simp only [Result.andThen_ok,Sem.run_bind,zero_run hi hz,Sem.run_pure]
  ·cases hc
 case mapr id =>
  cases ho:heap id with
  | none=>simp [ho] at hc
  | some ob =>
   cases ob <;> simp only [ho] at hc
   case mp kvs =>
    split at hc
    ·rename_i hl
     have hkv:=leaf_of hy hl
     obtain ⟨B,hB,hob⟩:=hH.obj id _ ho
     cases B with
     | nil=>exact hob.elim
     | «at» b tt =>
      obtain ⟨ents,clock,g1,g2,g3⟩:=hob
      cases hx with
      | mapr _ _ hp =>
       have hxv:=hp b tt hB
       have hrun : ∀ (res:Option (Nat × Value)),Instr.findNow d (leafVal q) ents.toList 0 = some res → (execOp ρ o).run P w = .ok (.value (if c then .tuple #[(res.map (·.2)).getD z,.bool res.isSome] else (res.map (·.2)).getD z)) w:=by
        intro res hres
        rw [exec_lookup h,hxv,hkv]
        unfold Instr.lookup
        simp only [Sem.run_bind,run_underlying ht,Result.andThen_ok,MapKept.run_getObj_map g1,Sem.run_pure,MapKept.run_checkKey hk (isKey_leaf hlk hl),MapKept.run_findKey hk hres]
        cases res with
        | none =>
         simp only [Result.andThen_ok,Sem.run_bind,zero_run hi hz,Sem.run_pure]
         cases c <;> rfl
        | some y =>
         simp only [Result.andThen_ok,Sem.run_bind,Sem.run_pure]
         cases c <;> rfl
       split at hc
       ·rename_i y hf
        injection hc with hc
        subst hc
        obtain ⟨res,f1,i',v,rfl,f2⟩:=findP_spec hlk hl hf (by rw [Array.length_toList]; exact g2) (fun i k x h=>by have:=g3 i k x h; simpa using this)
        exact Out.pure hH [id] (hrun _ f1) (hres y v true f2.opened)
       ·rename_i hf
        injection hc with hc
        subst hc
        obtain ⟨res,f1,rfl⟩:=findP_spec hlk hl hf (by rw [Array.length_toList]; exact g2) (fun i k x h=>by have:=g3 i k x h; simpa using this)
        exact Out.pure hH [id] (hrun _ f1) (hres zp z false hzr)
       ·cases hc
    ·cases hc
   all_goals cases hc
 all_goals cases hc
theorem exec_mapset {t:TypeId} {x i v:Operand} (h:o.op = .mapUpdate t x i v ∨ o.op = .insert t x i v):(execOp ρ o).run P w = ((Instr.mapUpdate t (ρ x) (ρ i) (ρ v)).run P w).andThen fun _ w'=>.ok .skip w':=by
 rcases h with h | h <;>
 ·unfold execOp
  simp only [h]
  simp [Sem.run_bind]
theorem sameBits_leaf {lk:LK} {p:PVal} (h:leafIs lk p = true) (n:Nat):Instr.sameBits n (leafVal p) (leafVal p) = true:=by
 cases lk <;> cases p <;> simp [leafIs] at h <;> simp [leafVal,Instr.sameBits]
 exact str_refl _
theorem core_mapset {t kt e:TypeId} {x i v:Operand} {d:TypeDesc} {lk:LK} {p q y:PVal} (h:o.op = .mapUpdate t x i v ∨ o.op = .insert t x i v) (ht:P.underlying t = some (.map kt e)) (hk:P.underlying kt = some d) (hlk:LKof d = some lk)
  (hH:SimH D m ok heap w) (hx:Rep w (okn ok m) D m false p (ρ x)) (hq:Rep w (okn ok m) D m false q (ρ i)) (hy:Rep w (okn ok m) D m false y (ρ v)) (hc:core (.mapset lk) [p,q,y] heap nx = some r):Out P o ρ D m ok heap w r:=by
 cases p <;> simp only [core] at hc
 case mapr id =>
  cases ho:heap id with
  | none=>simp [ho] at hc
  | some ob =>
   cases ob <;> simp only [ho] at hc
   case mp kvs =>
    split at hc
    ·rename_i hcond
     obtain ⟨hl,hcl⟩:=hcond
     have hkv:=leaf_of hq hl
     split at hc
     ·rename_i l hset
      injection hc with hc
      subst hc
      obtain ⟨B,hB,hob⟩:=hH.obj id _ ho
      cases B with
      | nil=>exact hob.elim
      | «at» b tt =>
       obtain ⟨ents,clock,g1,g2,g3⟩:=hob
       have hlt:b < w.heap.size:=hH.lt id b tt hB
       cases hx with
       | mapr _ _ hp =>
        have hxv:=hp b tt hB
        have hyc:=hy.close hcl
        have hik:MapKept.IsKey d (ρ i):=by rw [hkv]; exact isKey_leaf hlk hl
        have hkc:Rep w (okn ok m) D m true q (ρ i):=hq.close (by cases lk <;> cases q <;> simp [leafIs] at hl <;> rfl)
        have step : ∀ {cc:Bool} {p:PVal} {u:Value} {w':World},Step m w m w' → Rep w (okn ok m) D m cc p u → Rep w' (okn ok m) D m cc p u:=fun hst h=>h.step hst (fun _ h=>h) (fun _ _=>.inl rfl)
        rcases setP_spec hlk hl hset (by rw [Array.length_toList]; exact g2) (fun i k x h=>by have:=g3 i k x h; simpa using this) with ⟨i',v',e',f1,f2,f3,f4⟩ | ⟨f1,f2⟩
        ·refine Out.change hH (B:=.at b tt) (w':={ w with heap:=w.heap.setIfInBounds b (.map (ents.modify i' fun e=>{ e with key:=ρ i,val:=ρ v }) clock) }) hB (.mp l) [id] ?_ rfl rfl rfl (by simp) (fun k hk=>(MapKept.heap_set (o':=.map (ents.modify i' fun e=>{ e with key:=ρ i,val:=ρ v }) clock) g1).2 k hk) (fun hst=>⟨ents.modify i' fun e=>{ e with key:=ρ i,val:=ρ v },clock,(MapKept.heap_set g1).1,by rw [f4]; simpa using g2,fun j k x hj=>?_⟩)
         ·rw [exec_mapset h,hxv]
          unfold Instr.mapUpdate
          have hkk:((ents[i']?).map (·.key)).getD (ρ i) = ρ i:=by
           have:ents[i']? = some e':=by simpa using f2
           rw [this]; simp only [Option.map_some,Option.getD_some]; rw [f3,hkv]
          have hstay:(Instr.keyThatStays (ρ i) (ρ i)).run P w = .ok (ρ i) w:=by
           unfold Instr.keyThatStays
           rw [if_pos (by rw [hkv]; exact sameBits_leaf hl _)]
           rfl
          simp only [Sem.run_bind,run_underlying ht,Result.andThen_ok,MapKept.run_getObj_map g1,MapKept.run_checkKey hk hik]
          rw [MapKept.run_findKey hk (hkv ▸ f1)]
          simp only [Result.andThen_ok,Sem.run_bind,hkk,hstay,MapKept.run_setObj_map _ g1]
         ·rw [f4,List.getElem?_set] at hj
          rw [Array.getElem?_modify]
          by_cases hij:i' = j
          ·subst hij
           have he':ents[i']? = some e':=by simpa using f2
           have hlen:i' < kvs.length:=by rw [← g2]; exact (Array.getElem?_eq_some_iff.1 he').1
           simp only [if_true,hlen] at hj
           injection hj with hj
           injection hj with e1 e2
           subst e1 e2
           simp only [if_true,he',Option.map_some]
           exact ⟨_,rfl,step hst hkc,step hst hyc⟩
          ·simp only [hij,if_false] at hj ⊢
           obtain ⟨e2,a1,a2,a3⟩:=g3 j k x hj
           exact ⟨e2,by simpa using a1,step hst a2,step hst a3⟩
        ·refine Out.change hH (B:=.at b tt) (w':={ w with heap:=w.heap.setIfInBounds b (.map (ents.push { key:=ρ i,val:=ρ v,born:=clock }) (clock + 1)) }) hB (.mp l) [id] ?_ rfl rfl rfl (by simp) (fun k hk=>(MapKept.heap_set (o':=.map (ents.push { key:=ρ i,val:=ρ v,born:=clock }) (clock + 1)) g1).2 k hk) (fun hst=>⟨ents.push { key:=ρ i,val:=ρ v,born:=clock },clock + 1,(MapKept.heap_set g1).1,by rw [f2]; simp [g2],fun j k x hj=>?_⟩)
         ·rw [exec_mapset h,hxv]
          unfold Instr.mapUpdate
          simp only [Sem.run_bind,run_underlying ht,Result.andThen_ok,MapKept.run_getObj_map g1,MapKept.run_checkKey hk hik]
          rw [MapKept.run_findKey hk (hkv ▸ f1)]
          simp only [Result.andThen_ok,MapKept.run_setObj_map _ g1]
         ·rw [f2] at hj
          rw [Array.getElem?_push]
          by_cases hij:j < kvs.length
          ·rw [List.getElem?_append_left hij] at hj
           rw [if_neg (by omega)]
           obtain ⟨e2,a1,a2,a3⟩:=g3 j k x hj
           exact ⟨e2,a1,step hst a2,step hst a3⟩
          ·have hjl:j = kvs.length:=by
            have:=(List.getElem?_eq_some_iff.1 hj).1
            simp at this; omega
           subst hjl
           simp only [List.getElem?_append_right (Nat.le_refl _),Nat.sub_self,List.getElem?_cons_zero,Option.some.injEq,Prod.mk.injEq] at hj
           obtain ⟨rfl,rfl⟩:=hj
           rw [if_pos g2.symm]
           exact ⟨_,rfl,step hst hkc,step hst hyc⟩
     ·cases hc
    ·cases hc
   all_goals cases hc
 all_goals cases hc
end
end Go.Proofs.YtakallenldpkiaaGreatDoor.Abs
