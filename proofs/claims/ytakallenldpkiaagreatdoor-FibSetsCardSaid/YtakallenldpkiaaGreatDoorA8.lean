/- Each operation of the abstract machine is what the model's operation does: len, values that are built, append. Generic over any program. -/
import Derived.Test.YtakallenldpkiaaGreatDoorA7
set_option linter.unusedVariables false
set_option linter.unusedSimpArgs false
set_option linter.unusedSectionVars false
namespace Go.Proofs.YtakallenldpkiaaGreatDoor.Abs
open Go
variable [DqC]
section
variable {P:Program} {o:Oper} {ρ:Operand → Value} {D:AId → Prop} {m:AId → Option Blk} {ok:Nat → Prop} {heap:AId → Option AObj} {w:World} {nx:AId} {r:R}
theorem exec_len {args:Array Operand} {ats:Array TypeId} {x:Operand} {t:TypeId} (h:o.op = .call { callee:=.builtin .len,args,argTypes:=ats }) (ha:args.toList = [x]) (hat:ats.toList = [t]) {v:Value}
    (hv:(Builtin.len_ #[t] o.type #[ρ x]).run P w = .ok v w):(execOp ρ o).run P w = .ok (.value v) w:=by
  have ha':args = #[x]:=by rw [← Array.toArray_toList (xs:=args),ha]
  have hat':ats = #[t]:=by rw [← Array.toArray_toList (xs:=ats),hat]
  unfold execOp
  simp only [h,ha',hat']
  simp [resolve,invoke,builtin,hv]
theorem core_lenS {args:Array Operand} {ats:Array TypeId} {x:Operand} {t:TypeId} {p:PVal} (h:o.op = .call { callee:=.builtin .len,args,argTypes:=ats }) (ha:args.toList = [x]) (hat:ats.toList = [t]) (hd:P.underlying t = some .string)
    (hH:SimH D m ok heap w) (hx:Rep w (okn ok m) D m false p (ρ x)) (hc:core .lenS [p] heap nx = some r):Out P o ρ D m ok heap w r:=by
  cases p <;> simp only [core] at hc
  case str s =>
    injection hc with hc
    subst hc
    refine Out.pure hH _ (exec_len h ha hat (v:=.int .i64 s.size) ?_) .int
    rw [rep_str hx]
    simp [Builtin.len_,run_underlying hd,goInt]
  all_goals cases hc
theorem core_lenL {args:Array Operand} {ats:Array TypeId} {x:Operand} {t e:TypeId} {p:PVal} (h:o.op = .call { callee:=.builtin .len,args,argTypes:=ats }) (ha:args.toList = [x]) (hat:ats.toList = [t]) (hd:P.underlying t = some (.slice e))
    (hH:SimH D m ok heap w) (hx:Rep w (okn ok m) D m false p (ρ x)) (hc:core .lenL [p] heap nx = some r):Out P o ρ D m ok heap w r:=by
  have key : ∀ a n c,ρ x = .slice a n c → (Builtin.len_ #[t] o.type #[ρ x]).run P w = .ok (.int .i64 n) w:=by
    intro a n c e
    rw [e]
    simp [Builtin.len_,run_underlying hd,goInt]
  cases p <;> simp only [core] at hc
  case nils =>
    injection hc with hc
    subst hc
    exact Out.pure hH _ (exec_len h ha hat (key _ _ _ (rep_nils hx))) .int
  case ro sz es =>
    injection hc with hc
    subst hc
    obtain ⟨A,n,cap,e1,rfl,_⟩:=ro_elem hx
    exact Out.pure hH _ (exec_len h ha hat (key _ _ _ e1)) .int
  case own id sz lo n =>
    cases ho:heap id with
    | none=>simp [ho] at hc
    | some ob =>
      cases ob <;> simp only [ho] at hc
      case row sz' ty es =>
        injection hc with hc
        subst hc
        obtain ⟨B,hB,hob⟩:=hH.obj id _ ho
        cases hx with
        | own hd' _ hp =>
          have hv:=hp B hB
          cases B with
          | nil =>
            obtain ⟨⟨A0,e1⟩,e2,e3⟩:=hv
            subst e3
            exact Out.pure hH _ (exec_len h ha hat (key _ _ _ e1)) .int
          | «at» b tt =>
            obtain ⟨a,cap,e1,_⟩:=hv
            exact Out.pure hH _ (exec_len h ha hat (key _ _ _ e1)) .int
      case full sz' ty es =>
        injection hc with hc
        subst hc
        obtain ⟨B,hB,hob⟩:=hH.obj id _ ho
        cases hx with
        | own hd' _ hp =>
          have hv:=hp B hB
          cases B with
          | nil =>
            obtain ⟨⟨A0,e1⟩,e2,e3⟩:=hv
            subst e3
            exact Out.pure hH _ (exec_len h ha hat (key _ _ _ e1)) .int
          | «at» b tt =>
            obtain ⟨a,cap,e1,_⟩:=hv
            exact Out.pure hH _ (exec_len h ha hat (key _ _ _ e1)) .int
      case box cs =>
        injection hc with hc
        subst hc
        obtain ⟨B,hB,hob⟩:=hH.obj id _ ho
        cases hx with
        | own hd' _ hp =>
          have hv:=hp B hB
          cases B with
          | nil =>
            obtain ⟨⟨A0,e1⟩,e2,e3⟩:=hv
            subst e3
            exact Out.pure hH _ (exec_len h ha hat (key _ _ _ e1)) .int
          | «at» b tt =>
            obtain ⟨a,cap,e1,_⟩:=hv
            exact Out.pure hH _ (exec_len h ha hat (key _ _ _ e1)) .int
      all_goals cases hc
  all_goals cases hc
theorem core_lenM {args:Array Operand} {ats:Array TypeId} {x:Operand} {t k e:TypeId} {p:PVal} (h:o.op = .call { callee:=.builtin .len,args,argTypes:=ats }) (ha:args.toList = [x]) (hat:ats.toList = [t]) (hd:P.underlying t = some (.map k e))
    (hH:SimH D m ok heap w) (hx:Rep w (okn ok m) D m false p (ρ x)) (hc:core .lenM [p] heap nx = some r):Out P o ρ D m ok heap w r:=by
  cases p <;> simp only [core] at hc
  case nilm =>
    injection hc with hc
    subst hc
    refine Out.pure hH _ (exec_len h ha hat (v:=.int .i64 0) ?_) .int
    have:ρ x = .map none:=by generalize ρ x = X at hx; cases hx; rfl
    rw [this]
    simp [Builtin.len_,run_underlying hd,goInt]
  case mapr id =>
    cases ho:heap id with
    | none=>simp [ho] at hc
    | some ob =>
      cases ob <;> simp only [ho] at hc
      case mp kvs =>
        injection hc with hc
        subst hc
        obtain ⟨B,hB,hob⟩:=hH.obj id _ ho
        cases B with
        | nil=>exact hob.elim
        | «at» b tt =>
          obtain ⟨ents,clock,g1,g2,g3⟩:=hob
          cases hx with
          | mapr _ _ hp =>
            refine Out.pure hH _ (exec_len h ha hat (v:=.int .i64 kvs.length) ?_) .int
            rw [hp b tt hB]
            simp [Builtin.len_,run_underlying hd,goInt,getObj,Sem.run,g1,g2]
      all_goals cases hc
  all_goals cases hc
theorem foldl_set (us:List Value) : ∀ (k:Nat) (off:Nat) (cs:Array Value),off + k + us.length ≤ cs.size →
    ((us.zipIdx k).foldl (fun cs (c,j)=>cs.setIfInBounds (off + j) c) cs).toList = spliceV cs.toList (off + k) us:=by
  have key : ∀ (us:List Value) (k off:Nat) (cs:Array Value),off + k + us.length ≤ cs.size →
      ((us.zipIdx k).foldl (fun cs (c,j)=>cs.setIfInBounds (off + j) c) cs).toList = cs.toList.take (off + k) ++ us ++ cs.toList.drop (off + k + us.length):=by
    intro us
    induction us with
    | nil=>intro k off cs h; simp
    | cons u us ih =>
      intro k off cs h
      simp only [List.length_cons] at h
      rw [List.zipIdx_cons,List.foldl_cons,ih (k + 1) off _ (by simp; omega)]
      simp only [Array.toList_setIfInBounds]
      have hlt:off + k < cs.toList.length:=by simp; omega
      rw [show off + (k + 1) = (off + k) + 1 by omega,List.take_set,List.take_succ_eq_append_getElem hlt]
      rw [List.set_append_right _ _ (by simp; omega)]
      simp only [List.length_take,Nat.min_eq_left (Nat.le_of_lt hlt),Nat.sub_self,List.set_cons_zero]
      rw [List.drop_set_of_lt (by omega)]
      simp only [List.length_cons]
      rw [show off + k + 1 + us.length = off + k + (us.length + 1) by omega]
      simp
  intro k off cs h
  rw [key us k off cs h]
  match us,h with
  | [],_=>rfl
  | [u],h =>
    simp only [spliceV]
    simp only [List.length_cons,List.length_nil] at h
    have hlt:off + k < cs.toList.length:=by simp; omega
    simp only [List.length_cons,List.length_nil]
    rw [List.set_eq_take_append_cons_drop,if_pos hlt]
    simp
  | _ :: _ :: _,_=>rfl
theorem fill_rep {c:Bool} (place:Nat → Option (Nat × Nat)) : ∀ {parts:List (Nat × Nat)} {ps cs cs':List PVal} {ivs:List (Nat × Value)} {vs:Array Value},fillP parts ps cs = some cs' → Reps w ok D m c cs vs.toList → (∀ v ∈ vs.toList,v.oneCell' = true) →
    ivs.length = ps.length → (∀ (i:Nat) (pr:Nat × Nat) (iv:Nat × Value),parts[i]? = some pr → ivs[i]? = some iv → place iv.1 = some pr) → Reps w ok D m c ps (ivs.map (·.2)) →
    ∃ vs':Array Value,Instr.fill place vs ivs = some vs' ∧ Reps w ok D m c cs' vs'.toList ∧ ∀ v ∈ vs'.toList,v.oneCell' = true
  | [],[],cs,cs',ivs,vs,hf,hcs,h1,hl,hpl,hps=>by
    simp [fillP] at hf
    subst hf
    obtain rfl:=List.eq_nil_of_length_eq_zero hl
    exact ⟨vs,rfl,hcs,h1⟩
  | [],_ :: _,_,_,_,_,hf,_,_,_,_,_=>by simp [fillP] at hf
  | _ :: _,[],_,_,_,_,hf,_,_,_,_,_=>by simp [fillP] at hf
  | (off,size) :: r,p :: ps,cs,cs',ivs,vs,hf,hcs,h1,hl,hpl,hps=>by
    match ivs,hl with
    | iv :: ivs,hl =>
      simp only [fillP] at hf
      split at hf
      · rename_i us hus
        split at hf
        · rename_i hcond
          obtain ⟨hul,hfit⟩:=hcond
          obtain ⟨g1,g2⟩:=cells_rep hps.head hus
          have hsz:iv.2.cells.size = size:=by have:=g2.1; simp at this; omega
          have hfitv:off + iv.2.cells.size ≤ vs.size:=by have:=hcs.1; simp at this; omega
          have hnew:(iv.2.cells.zipIdx.foldl (fun cs (c,j)=>cs.setIfInBounds (off + j) c) vs).toList = spliceV vs.toList off iv.2.cells.toList:=by
            rw [← Array.foldl_toList,Array.toList_zipIdx]
            exact foldl_set iv.2.cells.toList 0 off vs (by simp; omega)
          have hrep:Reps w ok D m c (splice cs off us) (iv.2.cells.zipIdx.foldl (fun cs (c,j)=>cs.setIfInBounds (off + j) c) vs).toList:=by
            rw [hnew]
            exact hcs.splice g2 off
          have hone : ∀ v ∈ (iv.2.cells.zipIdx.foldl (fun cs (c,j)=>cs.setIfInBounds (off + j) c) vs).toList,v.oneCell' = true:=by
            intro v hv
            rw [hnew] at hv
            unfold spliceV at hv
            split at hv
            · rename_i u he
              rcases List.mem_or_eq_of_mem_set hv with hv | rfl
              · exact h1 v hv
              · exact g1 _ (by rw [he]; simp)
            · simp only [List.mem_append] at hv
              rcases hv with (hv | hv) | hv
              · exact h1 v (List.mem_of_mem_take hv)
              · exact g1 v hv
              · exact h1 v (List.mem_of_mem_drop hv)
          obtain ⟨vs',e1,e2,e3⟩:=fill_rep place hf hrep hone (by simpa using hl) (fun i pr iv' hp hi=>hpl (i + 1) pr iv' (by simpa using hp) (by simpa using hi)) hps.tail
          refine ⟨vs',?_,e2,e3⟩
          have hp0:=hpl 0 (off,size) iv rfl rfl
          unfold Instr.fill
          simp only [hp0]
          rw [if_neg (by simp; omega)]
          exact e1
        · cases hf
      · cases hf
theorem run_mapM_list {α β:Type} (g:α → Sem β) (g':α → β) : ∀ (l:List α),(∀ x ∈ l,∀ w,(g x).run P w = .ok (g' x) w) → ∀ w,(l.mapM g).run P w = .ok (l.map g') w
  | [],_,w=>by simp
  | x :: l,h,w=>by
    simp only [List.mapM_cons,Sem.run_bind]
    rw [h x List.mem_cons_self w]
    simp only [Result.andThen_ok,Sem.run_bind]
    rw [run_mapM_list g g' l (fun y hy=>h y (List.mem_cons_of_mem _ hy)) w]
    simp
theorem run_mapM_array {α β:Type} (g:α → Sem β) (g':α → β) (l:Array α) (h : ∀ x ∈ l.toList,∀ w,(g x).run P w = .ok (g' x) w) (w:World):(l.mapM g).run P w = .ok (l.map g') w:=by
  rw [Array.mapM_eq_mapM_toList]
  simp only [Sem.run_map]
  rw [run_mapM_list g g' l.toList h w]
  simp only [Result.andThen]
  congr 1
  apply Array.ext'
  simp
theorem zeroC_rep {c:Bool} {z:Value} {zs:List PVal} (h:zeroC z = some zs):Reps w ok D m c zs z.cells.toList ∧ ∀ v ∈ z.cells.toList,v.oneCell' = true:=by
  obtain ⟨h1,h2⟩:=ofConsts_rep (w:=w) (ok:=ok) (D:=D) (m:=m) (c:=c) h
  exact ⟨h2,h1⟩
theorem partsOf_spec {fields:Array Field} : ∀ {parts:List (Nat × Operand)} {prs:List (Nat × Nat)} {xs:List Operand},partsOf P fields parts = some (prs,xs) →
    xs = parts.map (·.2) ∧ prs.length = parts.length ∧ ∀ (i:Nat) (pr:Nat × Nat) (iv:Nat × Operand),prs[i]? = some pr → parts[i]? = some iv → ∃ f ti,fields[iv.1]? = some f ∧ P.info? f.type = some ti ∧ pr = (f.offset,ti.size)
  | [],prs,xs,h=>by
    simp [partsOf] at h
    obtain ⟨rfl,rfl⟩:=h
    exact ⟨rfl,rfl,fun i pr iv hp=>by simp at hp⟩
  | (j,x) :: r,prs,xs,h=>by
    simp only [partsOf] at h
    split at h
    · rename_i f ps xs' h1 h2
      obtain ⟨ti,h3,h4⟩:=Option.map_eq_some_iff.1 h
      injection h4 with h4 h5
      subst h4 h5
      obtain ⟨e1,e2,e3⟩:=partsOf_spec h2
      refine ⟨by simp [e1],by simp [e2],fun i pr iv hp hi=>?_⟩
      cases i with
      | zero =>
        simp at hp hi
        subst hp hi
        exact ⟨f,ti,h1,h3,rfl⟩
      | succ i=>exact e3 i pr iv (by simpa using hp) (by simpa using hi)
    · cases h
theorem core_build {t:TypeId} {parts:Array (Nat × Operand)} {i:TypeInfo} {fields:Array Field} {z:Value} {zs:List PVal} {prs:List (Nat × Nat)} {xs:List Operand} {ps:List PVal} (h:o.op = .build t parts) (hi:P.info? t = some i)
    (hd:P.underlying t = some (.struct fields)) (hz:i.zero = some z) (hall:(fields.all fun f=>(P.info? f.type).isSome) = true) (hzs:zeroC z = some zs) (hpo:partsOf P fields parts.toList = some (prs,xs))
    (hH:SimH D m ok heap w) (hx:Reps w (okn ok m) D m false ps (xs.map ρ)) (hc:core (.build zs prs) ps heap nx = some r):Out P o ρ D m ok heap w r:=by
  simp only [core] at hc
  obtain ⟨cs,hcs,rfl⟩:=Option.map_eq_some_iff.1 hc
  obtain ⟨e1,e2,e3⟩:=partsOf_spec hpo
  obtain ⟨z1,z2⟩:=zeroC_rep (w:=w) (ok:=okn ok m) (D:=D) (m:=m) (c:=false) hzs
  have hinfo : ∀ f ∈ fields.toList,∃ ti,P.info? f.type = some ti:=by
    intro f hf
    rw [Array.all_eq_true'] at hall
    exact Option.isSome_iff_exists.1 (hall f (by simpa using hf))
  have hpl:((fields.mapM fun f=>(do pure (f.offset,← sizeOf f.type):Sem (Nat × Nat))).run P w) = .ok (fields.map fun f=>(f.offset,((P.info? f.type).map (·.size)).getD 0)) w:=by
    refine run_mapM_array _ _ fields (fun f hf w=>?_) w
    obtain ⟨ti,hti⟩:=hinfo f hf
    simp [run_sizeOf hti,hti]
  obtain ⟨vs',g1,g2,g3⟩:=fill_rep (fun j=>(fields.map fun f=>(f.offset,((P.info? f.type).map (·.size)).getD 0))[j]?) (ivs:=parts.toList.map fun (j,x)=>(j,ρ x)) hcs z1 z2 (by simp; have:=hx.1; simp [e1] at this; omega)
    (fun j pr iv hp hiv=>by
      rw [List.getElem?_map] at hiv
      obtain ⟨jx,hjx,hiv⟩:=Option.map_eq_some_iff.1 hiv
      subst hiv
      obtain ⟨f,ti,h1,h2,h3⟩:=e3 j pr jx hp hjx
      subst h3
      simp [h1,h2])
    (by
      have:List.map (fun x:Nat × Value=>x.2) (List.map (fun x:Nat × Operand=>(x.1,ρ x.2)) parts.toList) = xs.map ρ:=by rw [e1]; simp
      rw [this]; exact hx)
  refine Out.pure hH _ (v:=.agg vs') ?_ ?_
  · unfold execOp
    simp only [h]
    simp only [Sem.run_bind,Instr.build,zeroValue,typeInfo,run_program,Result.andThen_ok,hi,Sem.run_pure,hz,run_underlying hd,hpl]
    have:(Array.map (fun x:Nat × Operand=>(x.1,ρ x.2)) parts).toList = parts.toList.map fun (j,x)=>(j,ρ x):=by simp
    rw [this,g1]
    simp
  · have:=Rep.agg (w:=w) (ok:=okn ok m) (D:=D) (m:=m) (c:=false) g2.1 g3 g2.2
    simpa using this
theorem partsArr_spec {sz:Nat} : ∀ {parts:List (Nat × Operand)},(partsArr sz parts).2 = parts.map (·.2) ∧ (partsArr sz parts).1 = parts.map fun iv=>(iv.1 * sz,sz)
  | []=>⟨rfl,rfl⟩
  | (i,x) :: r=>by
    obtain ⟨h1,h2⟩:=partsArr_spec (sz:=sz) (parts:=r)
    exact ⟨by simp [partsArr,h1],by simp [partsArr,h2]⟩
theorem core_buildArr {t e:TypeId} {len:Nat} {parts:Array (Nat × Operand)} {i ie:TypeInfo} {z:Value} {zs:List PVal} {ps:List PVal} (h:o.op = .build t parts) (hi:P.info? t = some i)
    (hd:P.underlying t = some (.array len e)) (hz:i.zero = some z) (hie:P.info? e = some ie) (hzs:zeroC z = some zs)
    (hH:SimH D m ok heap w) (hx:Reps w (okn ok m) D m false ps ((partsArr ie.size parts.toList).2.map ρ)) (hc:core (.build zs (partsArr ie.size parts.toList).1) ps heap nx = some r):Out P o ρ D m ok heap w r:=by
  simp only [core] at hc
  obtain ⟨cs,hcs,rfl⟩:=Option.map_eq_some_iff.1 hc
  obtain ⟨e1,e2⟩:=partsArr_spec (sz:=ie.size) (parts:=parts.toList)
  rw [e1] at hx
  rw [e2] at hcs
  obtain ⟨z1,z2⟩:=zeroC_rep (w:=w) (ok:=okn ok m) (D:=D) (m:=m) (c:=false) hzs
  obtain ⟨vs',g1,g2,g3⟩:=fill_rep (fun j=>some (j * ie.size,ie.size)) (ivs:=parts.toList.map fun (j,x)=>(j,ρ x)) hcs z1 z2 (by have:=hx.1; simp at this; simp [this])
    (fun j pr iv hp hiv=>by
      rw [List.getElem?_map] at hiv hp
      obtain ⟨jx,hjx,hiv⟩:=Option.map_eq_some_iff.1 hiv
      rw [hjx] at hp
      subst hiv
      simpa using hp)
    (by
      have:List.map (fun x:Nat × Value=>x.2) (List.map (fun x:Nat × Operand=>(x.1,ρ x.2)) parts.toList) = (parts.toList.map (·.2)).map ρ:=by simp
      rw [this]; exact hx)
  refine Out.pure hH _ (v:=.agg vs') ?_ ?_
  · unfold execOp
    simp only [h]
    simp only [Sem.run_bind,Instr.build,zeroValue,typeInfo,run_program,Result.andThen_ok,hi,Sem.run_pure,hz,run_underlying hd,run_sizeOf hie]
    have:(Array.map (fun x:Nat × Operand=>(x.1,ρ x.2)) parts).toList = parts.toList.map fun (j,x)=>(j,ρ x):=by simp
    rw [this,g1]
    simp
  · have:=Rep.agg (w:=w) (ok:=okn ok m) (D:=D) (m:=m) (c:=false) g2.1 g3 g2.2
    simpa using this
theorem flat_get {α:Type} {sz:Nat} : ∀ {ls:List (List α)} {i j:Nat} {l:List α},(∀ l ∈ ls,l.length = sz) → ls[i]? = some l → j < sz → ls.flatten[i * sz + j]? = l[j]?
  | [],i,j,l,_,h,_=>by simp at h
  | x :: r,0,j,l,hs,h,hj=>by
    simp at h
    subst h
    rw [List.flatten_cons,List.getElem?_append_left (by rw [hs _ List.mem_cons_self]; omega)]
    congr 1
    omega
  | x :: r,i + 1,j,l,hs,h,hj=>by
    have hx:=hs x List.mem_cons_self
    rw [List.flatten_cons,List.getElem?_append_right (by rw [hx,Nat.succ_mul]; omega),hx]
    have:=flat_get (ls:=r) (i:=i) (j:=j) (fun l hl=>hs l (List.mem_cons_of_mem _ hl)) (by simpa using h) hj
    rw [← this]
    congr 1
    rw [Nat.succ_mul]
    omega
theorem flat_len {α:Type} {sz:Nat} : ∀ {ls:List (List α)},(∀ l ∈ ls,l.length = sz) → ls.flatten.length = ls.length * sz
  | [],_=>by simp
  | x :: r,hs=>by
    rw [List.flatten_cons,List.length_append,hs _ List.mem_cons_self,flat_len (fun l hl=>hs l (List.mem_cons_of_mem _ hl)),List.length_cons,Nat.succ_mul]
    omega
def idxd {α:Type}:Nat → List α → List (Nat × α)
  | _,[]=>[]
  | k,x :: r=>(k,x) :: idxd (k + 1) r
theorem partsFull_spec : ∀ {k:Nat} {parts:List (Nat × Operand)} {xs:List Operand},partsFull k parts = some xs → parts = idxd k xs
  | k,[],xs,h=>by simp [partsFull] at h; subst h; rfl
  | k,(i,x) :: r,xs,h=>by
    simp only [partsFull] at h
    split at h
    · rename_i hi
      obtain ⟨ys,h1,rfl⟩:=Option.map_eq_some_iff.1 h
      rw [partsFull_spec h1,hi]
      rfl
    · cases h
theorem idxd_map {α β:Type} (f:α → β) : ∀ (k:Nat) (l:List α),(idxd k l).map (fun (i,x)=>(i,f x)) = idxd k (l.map f)
  | _,[]=>rfl
  | k,x :: r=>by simp [idxd,idxd_map f (k + 1) r]
theorem fill_full {size:Nat} : ∀ (us:List Value) (k:Nat) (vs:Array Value),(∀ u ∈ us,u.cells.size = size) → (k + us.length) * size ≤ vs.size →
    ∃ vs':Array Value,Instr.fill (fun i=>some (i * size,size)) vs (idxd k us) = some vs' ∧ vs'.toList = vs.toList.take (k * size) ++ (us.map (·.cells.toList)).flatten ++ vs.toList.drop ((k + us.length) * size)
  | [],k,vs,hs,hl=>⟨vs,rfl,by simp⟩
  | u :: us,k,vs,hs,hl=>by
    have hu:=hs u List.mem_cons_self
    have hk:k * size + size ≤ vs.size:=by
      have:(k + 1) * size ≤ (k + (u :: us).length) * size:=Nat.mul_le_mul_right _ (by simp)
      rw [Nat.succ_mul] at this
      omega
    have hnew:(u.cells.zipIdx.foldl (fun cs (c,j)=>cs.setIfInBounds (k * size + j) c) vs).toList = vs.toList.take (k * size) ++ u.cells.toList ++ vs.toList.drop (k * size + size):=by
      rw [← Array.foldl_toList,Array.toList_zipIdx,foldl_set u.cells.toList 0 (k * size) vs (by simp; omega)]
      unfold spliceV
      split
      · rename_i v he
        have:u.cells.size = 1:=by rw [← Array.length_toList,he]; rfl
        have hlt:k * size < vs.toList.length:=by simp; omega
        rw [he,List.set_eq_take_append_cons_drop,if_pos (by simpa using hlt)]
        rw [hu] at this
        simp [this]
      · simp [hu]
    have hsz':(u.cells.zipIdx.foldl (fun cs (c,j)=>cs.setIfInBounds (k * size + j) c) vs).size = vs.size:=by
      rw [← Array.length_toList,hnew]
      simp [hu]
      omega
    obtain ⟨vs',e1,e2⟩:=fill_full us (k + 1) (u.cells.zipIdx.foldl (fun cs (c,j)=>cs.setIfInBounds (k * size + j) c) vs) (fun x hx=>hs x (List.mem_cons_of_mem _ hx)) (by rw [hsz']; simp at hl; rw [show k + 1 + us.length = k + (us.length + 1) by omega]; exact hl)
    refine ⟨vs',?_,?_⟩
    · simp only [idxd,Instr.fill]
      rw [if_neg (by simp [hu]; omega)]
      exact e1
    · rw [e2,hnew]
      have hl1:(List.take (k * size) vs.toList ++ u.cells.toList).length = (k + 1) * size:=by
        rw [Nat.succ_mul]; simp [hu]; omega
      rw [List.take_left' hl1,List.drop_append,hl1,List.drop_of_length_le (l:=List.take (k * size) vs.toList ++ u.cells.toList) (by
        rw [hl1]; exact Nat.mul_le_mul_right _ (by omega)),List.nil_append,List.drop_drop]
      have:k * size + size + ((k + 1 + us.length) * size - (k + 1) * size) = (k + (u :: us).length) * size:=by
        have h1:(k + 1) * size ≤ (k + 1 + us.length) * size:=Nat.mul_le_mul_right _ (by omega)
        rw [show k + (u :: us).length = k + 1 + us.length by simp; omega]
        rw [Nat.succ_mul] at h1 ⊢
        omega
      rw [this]
      simp [List.append_assoc]
theorem elemsOf_spec {sz:Nat} : ∀ {ps:List PVal} {es:List (List PVal)},elemsOf sz ps = some es → es.length = ps.length ∧ (∀ e ∈ es,e.length = sz) ∧ ∀ (i:Nat) (p:PVal) (e:List PVal),ps[i]? = some p → es[i]? = some e → p.cells = some e ∧ p.closed = true
  | [],es,h=>by
    simp [elemsOf] at h
    subst h
    exact ⟨rfl,fun e he=>by simp at he,fun i p e hp=>by simp at hp⟩
  | p :: ps,es,h=>by
    simp only [elemsOf] at h
    split at h
    · rename_i vs es' h1 h2
      split at h
      · rename_i hc
        injection h with h
        subst h
        obtain ⟨e1,e2,e3⟩:=elemsOf_spec h2
        refine ⟨by simp [e1],fun e he=>?_,fun i q e hq he=>?_⟩
        · rcases List.mem_cons.1 he with rfl | he
          · exact hc.1
          · exact e2 e he
        · cases i with
          | zero =>
            simp at hq he
            subst hq he
            exact ⟨h1,hc.2⟩
          | succ i=>exact e3 i q e (by simpa using hq) (by simpa using he)
      · cases h
    · cases h
theorem row_new {sz ty:Nat} {es:List (List PVal)} {ls:List (List Value)} {vs:Array Value} {w1:World} {m':AId → Option Blk} {D':AId → Prop} {b tot:Nat} (hb:w1.heap[b]? = some (.cells vs ty (0,0))) (hvs:vs.size = tot * sz) (hpre:ls.flatten <+: vs.toList) (htot:es.length ≤ tot) (hmax:tot ≤ maxLen)
    (hsz:0 < sz) (hes : ∀ e ∈ es,e.length = sz) (hls : ∀ l ∈ ls,l.length = sz) (hll:ls.length = es.length) (h1 : ∀ l ∈ ls,∀ v ∈ l,v.oneCell' = true)
    (hr : ∀ (i:Nat) (e:List PVal) (l:List Value),es[i]? = some e → ls[i]? = some l → Reps w1 (okn ok m') D' m' true e l):RepObj w1 ok D' m' (.row sz ty es) (.at b tot):=by
  refine ⟨vs,hb,hvs,htot,hmax,hsz,hes,fun i j e p he hp=>?_⟩
  have hi:i < ls.length:=by rw [hll]; exact (List.getElem?_eq_some_iff.1 he).1
  have hl:=List.getElem?_eq_getElem hi
  have hj:j < sz:=by rw [← hes e (List.mem_of_getElem? he)]; exact (List.getElem?_eq_some_iff.1 hp).1
  have hlen:=hls _ (List.getElem_mem hi)
  have hjl:j < ls[i].length:=by rw [hlen]; exact hj
  have hg:=flat_get hls hl hj
  rw [List.getElem?_eq_getElem hjl] at hg
  refine ⟨ls[i][j],?_,h1 _ (List.getElem_mem hi) _ (List.getElem_mem hjl),(hr i e _ he hl).2 j p _ hp (List.getElem?_eq_getElem hjl)⟩
  rw [← Array.getElem?_toList]
  obtain ⟨t,ht⟩:=hpre
  rw [← ht,List.getElem?_append_left (List.getElem?_eq_some_iff.1 hg).1]
  exact hg
theorem cellsL_spec {sz:Nat} : ∀ {ps:List PVal} {es:List (List PVal)},cellsL sz ps = some es → es.length = ps.length ∧ (∀ e ∈ es,e.length = sz) ∧ ∀ (i:Nat) (p:PVal) (e:List PVal),ps[i]? = some p → es[i]? = some e → p.cells = some e
  | [],es,h=>by
    simp [cellsL] at h
    subst h
    exact ⟨rfl,fun e he=>by simp at he,fun i p e hp=>by simp at hp⟩
  | p :: ps,es,h=>by
    simp only [cellsL] at h
    split at h
    · rename_i vs es' h1 h2
      split at h
      · rename_i hc
        injection h with h
        subst h
        obtain ⟨e1,e2,e3⟩:=cellsL_spec h2
        refine ⟨by simp [e1],fun e he=>?_,fun i q e hq he=>?_⟩
        · rcases List.mem_cons.1 he with rfl | he
          · exact hc
          · exact e2 e he
        · cases i with
          | zero =>
            simp at hq he
            subst hq he
            exact h1
          | succ i=>exact e3 i q e (by simpa using hq) (by simpa using he)
      · cases h
    · cases h
theorem reps_flatten {w:World} {ok:Nat → Prop} {D:AId → Prop} {m:AId → Option Blk} {c:Bool} : ∀ {es:List (List PVal)} {ls:List (List Value)},es.length = ls.length → (∀ (k:Nat) (e:List PVal) (l:List Value),es[k]? = some e → ls[k]? = some l → Reps w ok D m c e l) → Reps w ok D m c es.flatten ls.flatten
  | [],ls,hl,_=>by
    have:ls = []:=List.eq_nil_of_length_eq_zero hl.symm
    subst this
    exact Reps.nil ..
  | e :: es,ls,hl,h=>by
    match ls,hl with
    | l :: ls,hl =>
      simp only [List.flatten_cons]
      exact (h 0 e l rfl rfl).append (reps_flatten (by simpa using hl) fun k e' l' he hl'=>h (k + 1) e' l' (by simpa using he) (by simpa using hl'))
theorem bslice_run {t e:TypeId} {len:Nat} {parts:Array (Nat × Operand)} {i:TypeInfo} {xs:List Operand} {z:Value} (h:o.op = .buildSlice t len parts) (ht:P.underlying t = some (.slice e)) (hi:P.info? e = some i) (hpf:partsFull 0 parts.toList = some xs)
    (hlen:xs.length = len) (hpos:0 < i.size) (hcap:len * i.size ≤ 2 ^ 24) (hz1:i.zero = some z) (hz2:z.cells.size = i.size) (husz : ∀ u ∈ xs.map ρ,u.cells.size = i.size) :
    ∃ vs':Array Value,vs'.toList = ((xs.map ρ).map (·.cells.toList)).flatten ∧ vs'.size = len * i.size ∧ (execOp ρ o).run P w = .ok (.value (.slice (some ⟨w.heap.size,0,none⟩) len len)) (w.alloc (.cells vs' e)):=by
  have hparts:=partsFull_spec hpf
  obtain ⟨vs',f1,f2⟩:=fill_full (size:=i.size) (xs.map ρ) 0 ((Array.range (len * i.size)).map (fun j=>z.cells[j % z.cells.size]!)) husz (by simp [hlen])
  have hvs':vs'.toList = ((xs.map ρ).map (·.cells.toList)).flatten:=by
    rw [f2]
    simp [hlen]
  have hfl:=flat_len (ls:=(xs.map ρ).map (·.cells.toList)) (sz:=i.size) (fun l hl=>by
    obtain ⟨u,hu,rfl⟩:=List.mem_map.1 hl
    simpa using husz u hu)
  have hvsz:vs'.size = len * i.size:=by
    rw [← Array.length_toList,hvs',hfl]
    simp [hlen]
  refine ⟨vs',hvs',hvsz,?_⟩
  unfold execOp
  simp only [h]
  have hids:(Array.map (fun x:Nat × Operand=>(x.1,ρ x.2)) parts).toList = idxd 0 (xs.map ρ):=by
    rw [Array.toList_map,hparts]
    exact idxd_map ρ 0 xs
  simp only [Sem.run_bind,Instr.buildSlice,run_underlying ht,Result.andThen_ok,run_sizeOf hi]
  rw [if_neg (by omega)]
  by_cases h0:len * i.size = 0
  · simp only [h0,if_true] at f1 ⊢
    simp only [Sem.run_bind,Sem.run_pure,Result.andThen_ok]
    have hl0:xs = []:=by
      have:len = 0:=by
        rcases Nat.mul_eq_zero.1 h0 with h' | h'
        · exact h'
        · omega
      exact List.eq_nil_of_length_eq_zero (by omega)
    subst hl0
    simp only [List.map_nil,idxd,Instr.fill] at f1 hids
    injection f1 with f1
    subst f1
    rw [hids]
    simp [Instr.fill,newRow,Array.range_zero']
  · simp only [h0,if_false]
    simp only [Sem.run_bind,Sem.run_pure,Result.andThen_ok,zeroValue,typeInfo,run_program,hi,hz1]
    rw [hids,f1]
    simp [newRow]
theorem core_bsliceB {t e:TypeId} {len:Nat} {parts:Array (Nat × Operand)} {i:TypeInfo} {xs:List Operand} {ps:List PVal} {es:List (List PVal)} (h:o.op = .buildSlice t len parts) (ht:P.underlying t = some (.slice e)) (hi:P.info? e = some i) (hpf:partsFull 0 parts.toList = some xs)
    (hlen:xs.length = len) (hpos:0 < i.size) (hcap:len * i.size ≤ 2 ^ 24) (hz:(i.zero.map fun z=>z.cells.size) = some i.size) (hH:SimH D m ok heap w) (hnx : ¬ D nx) (hx:Reps w (okn ok m) D m false ps (xs.map ρ))
    (hes:cellsL i.size ps = some es):Out P o ρ D m ok heap w { v:=.own nx i.size 0 ps.length,wh:=[(nx,some (.box es.flatten))],nw:=[nx] }:=by
  obtain ⟨e1,e2,e3⟩:=cellsL_spec hes
  obtain ⟨z,hz1,hz2⟩:=Option.map_eq_some_iff.1 hz
  have hpl:ps.length = len:=by have:=hx.1; simp at this; omega
  have hcells : ∀ (k:Nat) (u:Value),(xs.map ρ)[k]? = some u → ∃ p el,ps[k]? = some p ∧ es[k]? = some el ∧ (∀ v ∈ u.cells.toList,v.oneCell' = true) ∧ Reps w (okn ok m) D m false el u.cells.toList:=by
    intro k u hu
    have hk:k < ps.length:=by rw [hx.1]; exact (List.getElem?_eq_some_iff.1 hu).1
    have hk':k < es.length:=by omega
    have hp:=List.getElem?_eq_getElem hk
    have he:=List.getElem?_eq_getElem hk'
    obtain ⟨k1,k2⟩:=cells_rep (hx.2 k _ u hp hu) (e3 k _ _ hp he)
    exact ⟨_,_,hp,he,k1,k2⟩
  have husz : ∀ u ∈ xs.map ρ,u.cells.size = i.size:=by
    intro u hu
    obtain ⟨k,hk,rfl⟩:=List.mem_iff_getElem.1 hu
    obtain ⟨p,el,hp,he,_,g⟩:=hcells k _ (List.getElem?_eq_getElem hk)
    have:=g.1
    rw [e2 el (List.mem_of_getElem? he)] at this
    simpa using this.symm
  obtain ⟨vs',hvs',hvsz,hrun⟩:=bslice_run (w:=w) h ht hi hpf hlen hpos hcap hz1 (by rw [hz2]) husz
  have hall:Reps w (okn ok m) D m false es.flatten vs'.toList:=by
    rw [hvs']
    refine reps_flatten (by simp; have:=hx.1; simp at this; omega) fun k el l he hl=>?_
    rw [List.getElem?_map] at hl
    obtain ⟨u,hu,rfl⟩:=Option.map_eq_some_iff.1 hl
    obtain ⟨p,el',hp,he',g1,g⟩:=hcells k u hu
    rw [he] at he'
    injection he' with he'
    subst he'
    exact g
  have hone : ∀ v ∈ vs'.toList,v.oneCell' = true:=by
    intro v hv
    rw [hvs'] at hv
    obtain ⟨l,hl,hv⟩:=List.mem_flatten.1 hv
    obtain ⟨u,hu,rfl⟩:=List.mem_map.1 hl
    obtain ⟨k,hk,rfl⟩:=List.mem_iff_getElem.1 hu
    obtain ⟨p,el,hp,he,g1,g⟩:=hcells k _ (List.getElem?_eq_getElem hk)
    exact g1 v hv
  refine Out.new hH hnx (.box es.flatten) _ len _ hrun (fun m' D' hst hD hm=>?_) (fun m' D' hst hD hm hd hn=>?_)
  · refine ⟨vs',e,heap_alloc_new w _,by have:=hall.1; simpa using this.symm,fun j p hp=>?_⟩
    have hj:j < vs'.toList.length:=by rw [← hall.1]; exact (List.getElem?_eq_some_iff.1 hp).1
    have hv:=List.getElem?_eq_getElem hj
    refine ⟨_,by rw [← Array.getElem?_toList]; exact hv,hone _ (List.mem_of_getElem? hv),(hall.2 j p _ hp hv).step hst hD hm⟩
  · refine .own hd rfl fun B e'=>?_
    rw [hn] at e'
    injection e' with e'
    subst e'
    refine ⟨⟨w.heap.size,0,none⟩,len,by rw [hpl],rfl,rfl,.inl (by simp),by omega,by omega,?_⟩
    have:len * 1 ≤ len * i.size:=Nat.mul_le_mul_left _ hpos
    simp only [maxLen]; omega
theorem core_bslice {t e:TypeId} {len:Nat} {parts:Array (Nat × Operand)} {i:TypeInfo} {xs:List Operand} {ps:List PVal} (h:o.op = .buildSlice t len parts) (ht:P.underlying t = some (.slice e)) (hi:P.info? e = some i) (hpf:partsFull 0 parts.toList = some xs)
    (hlen:xs.length = len) (hpos:0 < i.size) (hcap:len * i.size ≤ 2 ^ 24) (hz:(i.zero.map fun z=>z.cells.size) = some i.size) (hH:SimH D m ok heap w) (hnx : ¬ D nx) (hx:Reps w (okn ok m) D m false ps (xs.map ρ))
    (hc:core (.bslice i.size e) ps heap nx = some r):Out P o ρ D m ok heap w r:=by
  simp only [core] at hc
  cases hes:elemsOf i.size ps with
  | none =>
    simp only [hes] at hc
    split at hc
    · rename_i es hcl
      injection hc with hc
      subst hc
      exact core_bsliceB h ht hi hpf hlen hpos hcap hz hH hnx hx hcl
    · cases hc
  | some es =>
    simp only [hes,Option.some.injEq] at hc
    subst hc
    obtain ⟨e1,e2,e3⟩:=elemsOf_spec hes
    obtain ⟨z,hz1,hz2⟩:=Option.map_eq_some_iff.1 hz
    have hpl:ps.length = len:=by have:=hx.1; simp at this; omega
    have hparts:=partsFull_spec hpf
    have hcells : ∀ (k:Nat) (u:Value),(xs.map ρ)[k]? = some u → ∃ p el,ps[k]? = some p ∧ es[k]? = some el ∧ (∀ v ∈ u.cells.toList,v.oneCell' = true) ∧ Reps w (okn ok m) D m true el u.cells.toList:=by
      intro k u hu
      have hk:k < ps.length:=by rw [hx.1]; exact (List.getElem?_eq_some_iff.1 hu).1
      have hk':k < es.length:=by omega
      have hp:=List.getElem?_eq_getElem hk
      have he:=List.getElem?_eq_getElem hk'
      obtain ⟨g1,g2⟩:=e3 k _ _ hp he
      obtain ⟨k1,k2⟩:=cells_rep ((hx.2 k _ u hp hu).close g2) g1
      exact ⟨_,_,hp,he,k1,k2⟩
    have husz : ∀ u ∈ xs.map ρ,u.cells.size = i.size:=by
      intro u hu
      obtain ⟨k,hk,rfl⟩:=List.mem_iff_getElem.1 hu
      obtain ⟨p,el,hp,he,_,g⟩:=hcells k _ (List.getElem?_eq_getElem hk)
      have:=g.1
      rw [e2 el (List.mem_of_getElem? he)] at this
      simpa using this.symm
    obtain ⟨vs',f1,f2⟩:=fill_full (size:=i.size) (xs.map ρ) 0 ((Array.range (len * i.size)).map (fun j=>z.cells[j % z.cells.size]!)) husz (by simp [hlen])
    have hvs':vs'.toList = ((xs.map ρ).map (·.cells.toList)).flatten:=by
      rw [f2]
      simp [hlen]
    have hfl:=flat_len (ls:=(xs.map ρ).map (·.cells.toList)) (sz:=i.size) (fun l hl=>by
      obtain ⟨u,hu,rfl⟩:=List.mem_map.1 hl
      simpa using husz u hu)
    have hvsz:vs'.size = len * i.size:=by
      rw [← Array.length_toList,hvs',hfl]
      simp [hlen]
    have hrun:(execOp ρ o).run P w = .ok (.value (.slice (some ⟨w.heap.size,0,none⟩) len len)) (w.alloc (.cells vs' e)):=by
      unfold execOp
      simp only [h]
      have hids:(Array.map (fun x:Nat × Operand=>(x.1,ρ x.2)) parts).toList = idxd 0 (xs.map ρ):=by
        rw [Array.toList_map,hparts]
        exact idxd_map ρ 0 xs
      simp only [Sem.run_bind,Instr.buildSlice,run_underlying ht,Result.andThen_ok,run_sizeOf hi]
      rw [if_neg (by omega)]
      by_cases h0:len * i.size = 0
      · simp only [h0,if_true] at f1 ⊢
        simp only [Sem.run_bind,Sem.run_pure,Result.andThen_ok]
        have hl0:xs = []:=by
          have:len = 0:=by
            rcases Nat.mul_eq_zero.1 h0 with h' | h'
            · exact h'
            · omega
          exact List.eq_nil_of_length_eq_zero (by omega)
        subst hl0
        simp only [List.map_nil,idxd,Instr.fill] at f1 hids
        injection f1 with f1
        subst f1
        rw [hids]
        simp [Instr.fill,newRow,Array.range_zero']
      · simp only [h0,if_false]
        simp only [Sem.run_bind,Sem.run_pure,Result.andThen_ok,zeroValue,typeInfo,run_program,hi,hz1]
        rw [hids,f1]
        simp [newRow]
    refine Out.new hH hnx (.row i.size e es) _ len _ hrun (fun m' D' hst hD hm=>?_) (fun m' D' hst hD hm hd hn=>?_)
    · refine row_new (ls:=(xs.map ρ).map (·.cells.toList)) (heap_alloc_new w _) hvsz (by rw [hvs']; exact List.prefix_rfl) (by omega) (by
        have:len * 1 ≤ len * i.size:=Nat.mul_le_mul_left _ hpos
        simp only [maxLen]; omega) hpos e2 (fun l hl=>by
          obtain ⟨u,hu,rfl⟩:=List.mem_map.1 hl
          simpa using husz u hu) (by simp [hlen]; omega) (fun l hl v hv=>?_) (fun k e' l he' hl=>?_)
      · obtain ⟨u,hu,rfl⟩:=List.mem_map.1 hl
        obtain ⟨k,hk,rfl⟩:=List.mem_iff_getElem.1 hu
        obtain ⟨p,el,hp,he,g1,g⟩:=hcells k _ (List.getElem?_eq_getElem hk)
        exact g1 v hv
      · rw [List.getElem?_map] at hl
        obtain ⟨u,hu,rfl⟩:=Option.map_eq_some_iff.1 hl
        obtain ⟨p,el,hp,he,g1,g⟩:=hcells k u hu
        rw [he'] at he
        injection he with he
        subst he
        exact g.mono fun p v hr=>hr.step hst hD hm
    · refine .own hd rfl fun B e'=>?_
      rw [hn] at e'
      injection e' with e'
      subst e'
      refine ⟨⟨w.heap.size,0,none⟩,len,by rw [hpl],rfl,rfl,.inl (by simp),by omega,by omega,?_⟩
      have:len * 1 ≤ len * i.size:=Nat.mul_le_mul_left _ hpos
      simp only [maxLen]; omega
theorem elems_rep (hH:SimH D m ok heap w) {p:PVal} {v:Value} {sz:Nat} {es:List (List PVal)} {rh:List AId} (hp:Rep w (okn ok m) D m false p v) (he:elems heap p = some (sz,es,rh)) :
    ∃ A n cap,v = .slice A n cap ∧ n = es.length ∧ (∀ e ∈ es,e.length = sz) ∧
      (0 < n → ∃ ad,A = some ad ∧ ∃ ls:List (List Value),ls.length = es.length ∧ (∀ l ∈ ls,l.length = sz) ∧ (∀ l ∈ ls,∀ u ∈ l,u.oneCell' = true) ∧ (∀ (i:Nat) (e:List PVal) (l:List Value),es[i]? = some e → ls[i]? = some l → Reps w (okn ok m) D m true e l) ∧
        ∀ (j:Nat) (u:Value),ls.flatten[j]? = some u → w.cell? (ad.add j) = some u):=by
  cases p <;> simp only [elems] at he
  case ro sz' es' =>
    injection he with he
    injection he with h1 h2
    injection h2 with h2 h3
    subst h1 h2 h3
    cases hp with
    | @ro _ _ _ A n cap ad vs hn hc hm hs hA hcell h =>
      refine ⟨A,n,cap,rfl,hn.symm,hs,fun hpos=>⟨ad,hA hpos,(List.range es'.length).map (fun i=>(List.range sz').map (vs i)),by simp,fun l hl=>?_,fun l hl u hu=>?_,fun i e l he hl=>?_,fun j u hu=>?_⟩⟩
      · obtain ⟨i,_,rfl⟩:=List.mem_map.1 hl
        simp
      · obtain ⟨i,hi,rfl⟩:=List.mem_map.1 hl
        obtain ⟨j,hj,rfl⟩:=List.mem_map.1 hu
        have hi:=List.mem_range.1 hi
        have hj:=List.mem_range.1 hj
        exact (hcell i j _ _ (List.getElem?_eq_getElem hi) (List.getElem?_eq_getElem (by rw [hs _ (List.getElem_mem hi)]; exact hj))).2.2
      · have hi:=(List.getElem?_eq_some_iff.1 he).1
        rw [List.getElem?_map,List.getElem?_range hi] at hl
        injection hl with hl
        subst hl
        have hel:=hs e (List.mem_of_getElem? he)
        refine ⟨by simp [hel],fun j p u hp' hu=>?_⟩
        have hj:j < sz':=by rw [← hel]; exact (List.getElem?_eq_some_iff.1 hp').1
        rw [List.getElem?_map,List.getElem?_range hj] at hu
        injection hu with hu
        subst hu
        exact h i j e p he hp'
      · have hfl:=flat_len (ls:=(List.range es'.length).map (fun i=>(List.range sz').map (vs i))) (sz:=sz') (fun l hl=>by obtain ⟨i,_,rfl⟩:=List.mem_map.1 hl; simp)
        have hj:=(List.getElem?_eq_some_iff.1 hu).1
        rw [hfl] at hj
        simp only [List.length_map,List.length_range] at hj
        have hsz:0 < sz':=by rcases Nat.eq_zero_or_pos sz' with h0 | h0; · subst h0; omega
                             · exact h0
        have hi:j / sz' < es'.length:=(Nat.div_lt_iff_lt_mul hsz).2 hj
        have hjm:j % sz' < sz':=Nat.mod_lt _ hsz
        have hg:=flat_get (ls:=(List.range es'.length).map (fun i=>(List.range sz').map (vs i))) (i:=j / sz') (j:=j % sz') (l:=(List.range sz').map (vs (j / sz'))) (fun l hl=>by obtain ⟨i,_,rfl⟩:=List.mem_map.1 hl; simp)
          (by rw [List.getElem?_map,List.getElem?_range hi]; rfl) hjm
        have hdm:j / sz' * sz' + j % sz' = j:=Nat.div_add_mod' j sz'
        rw [hdm,hu,List.getElem?_map,List.getElem?_range hjm] at hg
        injection hg with hg
        subst hg
        have:=(hcell (j / sz') (j % sz') _ _ (List.getElem?_eq_getElem hi) (List.getElem?_eq_getElem (by rw [hs _ (List.getElem_mem hi)]; exact hjm))).2.1
        rwa [hdm] at this
  case own id sz' lo n =>
    cases ho:heap id with
    | none=>simp [ho] at he
    | some ob =>
      cases ob <;> simp only [ho] at he
      case row sz'' ty es' =>
        split at he
        · rename_i hcond
          obtain ⟨hsz,hle⟩:=hcond
          subst hsz
          injection he with he
          injection he with h1 h2
          injection h2 with h2 h3
          subst h1 h2 h3
          obtain ⟨B,hB,hob⟩:=hH.obj id _ ho
          cases hp with
          | own hd _ hv =>
            have hv:=hv B hB
            cases B with
            | nil =>
              obtain ⟨⟨A0,g1⟩,g2,g3⟩:=hv
              obtain ⟨rfl,_⟩:=hob
              subst g2 g3
              exact ⟨A0,0,0,g1,by simp,fun e he=>by simp at he,fun h=>by omega⟩
            | «at» b tot =>
              obtain ⟨a,cap,g1,g2,g3,g4,g5,g6,g7⟩:=hv
              have hob':=hob
              obtain ⟨vs,k1,k2,k3,k4,k5,k6,k7⟩:=hob
              have hlen:((es'.drop lo).take n).length = n:=by simp; omega
              have hgete : ∀ i,i < n → ((es'.drop lo).take n)[i]? = es'[lo + i]?:=fun i hi=>by rw [List.getElem?_take,if_pos hi,List.getElem?_drop]
              refine ⟨some a,n,cap,g1,hlen.symm,fun e he=>k6 e (List.mem_of_mem_drop (List.mem_of_mem_take he)),fun hpos=>⟨a,rfl,(List.range n).map (fun i=>(vs.toList.drop ((lo + i) * sz'')).take sz''),by simp [hlen],fun l hl=>?_,fun l hl u hu=>?_,fun i e l he hl=>?_,fun j u hu=>?_⟩⟩
              · obtain ⟨i,hi,rfl⟩:=List.mem_map.1 hl
                have hi:=List.mem_range.1 hi
                have hm:(lo + i + 1) * sz'' ≤ tot * sz'':=Nat.mul_le_mul_right _ (by omega)
                rw [Nat.succ_mul] at hm
                simp [k2]; omega
              · obtain ⟨i,hi,rfl⟩:=List.mem_map.1 hl
                have hi:=List.mem_range.1 hi
                obtain ⟨vs2,q1,q2,q3,q4,q5⟩:=row_reps hob' (i:=lo + i) (by omega)
                rw [k1] at q1
                injection q1 with q1
                injection q1 with q1
                subst q1
                exact q3 u hu
              · have hi:i < n:=by rw [← hlen]; exact (List.getElem?_eq_some_iff.1 he).1
                rw [List.getElem?_map,List.getElem?_range hi] at hl
                injection hl with hl
                subst hl
                rw [hgete i hi] at he
                obtain ⟨vs2,q1,q2,q3,q4,q5⟩:=row_reps hob' (i:=lo + i) (by omega)
                rw [k1] at q1
                injection q1 with q1
                injection q1 with q1
                subst q1
                have:es'.getD (lo + i) [] = e:=by simp [List.getD,he]
                rw [this] at q2
                exact q2
              · have hls : ∀ l ∈ (List.range n).map (fun i=>(vs.toList.drop ((lo + i) * sz'')).take sz''),l.length = sz'':=by
                  intro l hl
                  obtain ⟨i,hi,rfl⟩:=List.mem_map.1 hl
                  have hi:=List.mem_range.1 hi
                  have hm:(lo + i + 1) * sz'' ≤ tot * sz'':=Nat.mul_le_mul_right _ (by omega)
                  rw [Nat.succ_mul] at hm
                  simp [k2]; omega
                have hfl:=flat_len hls
                have hj:=(List.getElem?_eq_some_iff.1 hu).1
                rw [hfl] at hj
                simp only [List.length_map,List.length_range] at hj
                have hi:j / sz'' < n:=(Nat.div_lt_iff_lt_mul k5).2 hj
                have hjm:j % sz'' < sz'':=Nat.mod_lt _ k5
                have hg:=flat_get hls (i:=j / sz'') (j:=j % sz'') (l:=(vs.toList.drop ((lo + j / sz'') * sz'')).take sz'') (by rw [List.getElem?_map,List.getElem?_range hi]; rfl) hjm
                have hdm:j / sz'' * sz'' + j % sz'' = j:=Nat.div_add_mod' j sz''
                rw [hdm,hu,List.getElem?_take,if_pos hjm,List.getElem?_drop,Array.getElem?_toList] at hg
                have hao:a.off = lo * sz'':=by rcases g4 with g4 | g4; exact g4; omega
                obtain ⟨ab,ao,as⟩:=a
                simp only at g2 g3 hao
                subst g2 g3 hao
                rw [add_flat,cell_at k1,show lo * sz'' + j = (lo + j / sz'') * sz'' + j % sz'' by rw [Nat.add_mul]; omega]
                exact hg.symm
        · cases he
      all_goals cases he
  all_goals cases he
end
end Go.Proofs.YtakallenldpkiaaGreatDoor.Abs
