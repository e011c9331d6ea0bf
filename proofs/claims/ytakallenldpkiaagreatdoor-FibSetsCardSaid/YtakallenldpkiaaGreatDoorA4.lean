/- Each operation of the abstract machine is what the model's operation does: the operations one by one. Generic over any program. -/
import Derived.Test.YtakallenldpkiaaGreatDoorA3
set_option linter.unusedVariables false
set_option linter.unusedSimpArgs false
set_option linter.unusedSectionVars false
namespace Go.Proofs.YtakallenldpkiaaGreatDoor.Abs
open Go
variable [DqC]
section
variable {P:Program} {o:Oper} {ρ:Operand → Value} {D:AId → Prop} {m:AId → Option Blk} {ok:Nat → Prop} {heap:AId → Option AObj} {w:World} {nx:AId} {r:R}
theorem kindOf_some {t:TypeId} {k:Option Nat} (h:kindOf P t = some k) : ∃ d i,P.underlying t = some d ∧ P.info? t = some i ∧ k = if isAggD d then some i.size else none:=by
 unfold kindOf at h
 split at h
 ·rename_i d i h1 h2
  injection h with h
  exact ⟨d,i,h1,h2,h.symm⟩
 ·cases h
theorem core_load {t:TypeId} {x:Operand} {k:Option Nat} {p:PVal} (h:o.op = .load t x) (hk:kindOf P t = some k) (hH:SimH D m ok heap w) (hx:Rep w (okn ok m) D m false p (ρ x))
  (hc:core (.load k) [p] heap nx = some r):Out P o ρ D m ok heap w r:=by
 obtain ⟨d,i,hd,hi,rfl⟩:=kindOf_some hk
 cases p <;> simp only [core] at hc
 case ptr id off =>
  cases ho:heap id with
  | none=>simp [ho] at hc
  | some ob =>
   cases ob with
   | box cs =>
    simp only [ho] at hc
    obtain ⟨v,hv,rfl⟩:=Option.map_eq_some_iff.1 hc
    obtain ⟨B,hB,hob⟩:=hH.obj id _ ho
    cases B with
    | nil=>exact hob.elim
    | «at» b tt =>
     obtain ⟨vs,ty,h1,h2,h3⟩:=box_reps hob
     cases hx with
     | ptr _ _ hp =>
      obtain ⟨h4,h5⟩:=peek_rep h2 h3 hv
      exact Out.pure hH _ (exec_load h hd hi (hp b tt hB) _ h4 (cells_of_block h1 _ _)) h5
   | row=>simp [ho] at hc
   | mp=>simp [ho] at hc
   | mq=>simp [ho] at hc
   | full=>simp [ho] at hc
 case eptr id sz j off =>
  cases ho:heap id with
  | none=>simp [ho] at hc
  | some ob =>
   cases ob with
   | row sz' ty es =>
    simp only [ho] at hc
    split at hc
    ·rename_i hcond
     obtain ⟨hsz,hj⟩:=hcond
     subst hsz
     obtain ⟨v,hv,rfl⟩:=Option.map_eq_some_iff.1 hc
     obtain ⟨B,hB,hob⟩:=hH.obj id _ ho
     cases B with
     | nil=>obtain ⟨rfl,_⟩:=hob; simp at hj
     | «at» b tt =>
      obtain ⟨vs,h1,h2,h3,hb,hl⟩:=row_reps hob hj
      cases hx with
      | eptr _ _ hp =>
       obtain ⟨h4,h5⟩:=peek_rep h2 h3 hv
       refine Out.pure hH _ (exec_load h hd hi (hp b tt hB) _ h4 (fun q u hu=>?_)) h5.opened
       have hq:q < (if isAggD d = true then i.size else 1):=by
        rcases Nat.lt_or_ge q (if isAggD d = true then i.size else 1) with h' | h'
        ·exact h'
        ·rw [List.getElem?_eq_none (by rw [h4]; exact h')] at hu; cases hu
       rw [List.getElem?_take,if_pos hq,List.getElem?_drop,List.getElem?_take] at hu
       split at hu
       ·rw [List.getElem?_drop,Array.getElem?_toList] at hu
        rw [add_flat,cell_at h1,Nat.add_assoc]
        exact hu
       ·cases hu
    ·cases hc
   | box=>simp [ho] at hc
   | mp=>simp [ho] at hc
   | mq=>simp [ho] at hc
   | full=>simp [ho] at hc
 case rptr cs =>
  obtain ⟨v,hv,rfl⟩:=Option.map_eq_some_iff.1 hc
  obtain ⟨ad,vs,he,h2,h3,h4⟩:=rptr_reps hx
  obtain ⟨h5,h6⟩:=peek_rep h2 h3 hv
  rw [he] at hx
  refine Out.pure hH _ (exec_load h hd hi he _ h5 (fun q u hu=>?_)) h6.opened
  have hu:=get_of_take hu
  rw [List.drop_zero] at hu
  exact h4 q u hu
 all_goals cases hc
theorem core_box {e:TypeId} {x:Operand} {p:PVal} (h:o.op = .box e x) (hH:SimH D m ok heap w) (hnx : ¬ D nx) (hx:Rep w (okn ok m) D m false p (ρ x))
  (hc:core .box [p] heap nx = some r):Out P o ρ D m ok heap w r:=by
 simp only [core] at hc
 cases hcs:p.cells with
 | none=>simp [hcs] at hc
 | some cs =>
  simp only [hcs,Option.some.injEq] at hc
  subst hc
  obtain ⟨h1,h2⟩:=cells_rep hx hcs
  refine Out.new hH hnx (.box cs) _ 0 _ (exec_box h) (fun m' D' hst hD hm=>?_) (fun m' D' hst hD hm hd hn=>?_)
  ·refine ⟨(ρ x).cells,e,heap_alloc_new w _,by simpa using h2.1.symm,fun i q hq=>?_⟩
   have hi:i < (ρ x).cells.toList.length:=by rw [← h2.1]; exact (List.getElem?_eq_some_iff.1 hq).1
   exact ⟨(ρ x).cells.toList[i],by rw [← Array.getElem?_toList]; exact List.getElem?_eq_getElem hi,h1 _ (List.getElem_mem hi),(h2.2 i q _ hq (List.getElem?_eq_getElem hi)).step hst hD hm⟩
  ·exact .ptr hd rfl (fun b t e'=>by rw [hn] at e'; injection e' with e'; injection e' with e1 e2; subst e1; rfl)
theorem core_alloc {e:TypeId} {i:TypeInfo} {z:Value} {zs:List PVal} (h:o.op = .alloc e) (hi:P.info? e = some i) (hz:i.zero = some z) (hzs:zeroC z = some zs) (hH:SimH D m ok heap w) (hnx : ¬ D nx)
  (hc:core (.alloc zs) [] heap nx = some r):Out P o ρ D m ok heap w r:=by
 simp only [core,Option.some.injEq] at hc
 subst hc
 refine Out.new hH hnx (.box zs) _ 0 _ (exec_alloc h hi hz) (fun m' D' hst hD hm=>?_) (fun m' D' hst hD hm hd hn=>?_)
 ·obtain ⟨h1,h2⟩:=ofConsts_rep (w:=w.alloc (.cells z.cells e)) (ok:=okn ok m') (D:=D') (m:=m') (c:=false) hzs
  refine ⟨z.cells,e,heap_alloc_new w _,by simpa using h2.1.symm,fun i q hq=>?_⟩
  have hi:i < z.cells.toList.length:=by rw [← h2.1]; exact (List.getElem?_eq_some_iff.1 hq).1
  exact ⟨z.cells.toList[i],by rw [← Array.getElem?_toList]; exact List.getElem?_eq_getElem hi,h1 _ (List.getElem_mem hi),h2.2 i q _ hq (List.getElem?_eq_getElem hi)⟩
 ·exact .ptr hd rfl (fun b t e'=>by rw [hn] at e'; injection e' with e'; injection e' with e1 e2; subst e1; rfl)
theorem setCells_spec : ∀ (us:List Value) (w:World) (b o:Nat) (vs:Array Value) (ty:TypeId) (i:Nat),w.heap[b]? = some (.cells vs ty (0,0)) → o + i + us.length ≤ vs.size → (∀ u ∈ us,u.oneCell' = true) →
  ∃ (w':World) (vs':Array Value),(storeCells ⟨b,o,none⟩ us i).run P w = .ok () w' ∧ w'.heap[b]? = some (.cells vs' ty (0,0)) ∧ vs'.size = vs.size ∧
   (∀ j,vs'.toList[j]? = if o + i ≤ j ∧ j < o + i + us.length then us[j - (o + i)]? else vs.toList[j]?) ∧ w'.os = w.os ∧ w'.tape = w.tape ∧ w'.output = w.output ∧ w'.heap.size = w.heap.size ∧ ∀ k,k ≠ b → w'.heap[k]? = w.heap[k]?
 | [],w,b,o,vs,ty,i,hb,hl,h1=>by
  refine ⟨w,vs,by simp [storeCells],hb,rfl,fun j=>?_,rfl,rfl,rfl,rfl,fun k _=>rfl⟩
  have : ¬ (o + i ≤ j ∧ j < o + i + ([]:List Value).length):=by
   rintro ⟨p1,p2⟩
   simp only [List.length_nil] at p2
   omega
  rw [if_neg this]
 | u :: us,w,b,o,vs,ty,i,hb,hl,h1=>by
  have hi:o + i < vs.size:=by simp at hl; omega
  have hc:w.cell? ((⟨b,o,none⟩ : Addr).add i) = some vs[o + i]:=by rw [add_flat,cell_at hb]; exact Array.getElem?_eq_getElem hi
  have hf:w.frozen? ((⟨b,o,none⟩ : Addr).add i) = false:=by rw [add_flat]; simp [World.frozen?,hb]
  have hs:(w.setCell ((⟨b,o,none⟩ : Addr).add i) u).heap[b]? = some (.cells (vs.setIfInBounds (o + i) u) ty (0,0)):=by
   rw [add_flat]
   simp [World.setCell,Array.getElem?_modify,hb]
  obtain ⟨w',vs',hr,hb',hz,hat,h5,h6,h7,h8,h9⟩:=setCells_spec us (w.setCell ((⟨b,o,none⟩ : Addr).add i) u) b o (vs.setIfInBounds (o + i) u) ty (i + 1) hs (by simp at hl ⊢; omega) (fun v hv=>h1 v (List.mem_cons_of_mem _ hv))
  refine ⟨w',vs',?_,hb',by simpa using hz,fun j=>?_,h5,h6,h7,by simpa using h8,fun k hk=>(h9 k hk).trans ?_⟩
  ·unfold storeCells
   simp only [Sem.run_bind]
   rw [run_store P w _ u .plain (h1 u List.mem_cons_self),hc]
   simp only [hf,Bool.false_eq_true,if_false,Result.andThen_ok]
   exact hr
  ·rw [hat j]
   by_cases hj:j = o + i
   ·subst hj
    rw [if_neg (by omega),if_pos (by simp)]
    simp [hi]
   ·by_cases hj2:o + (i + 1) ≤ j ∧ j < o + (i + 1) + us.length
    ·rw [if_pos hj2,if_pos (by simp; omega)]
     have:j - (o + i) = (j - (o + (i + 1))) + 1:=by omega
     rw [this]; simp
    ·rw [if_neg hj2,if_neg (by simp; omega)]
     simp only [Array.toList_setIfInBounds]
     rw [List.getElem?_set_ne (by omega)]
  ·rw [add_flat]
   simp [World.setCell,Array.getElem?_modify]
   intro e
   exact absurd e.symm hk
theorem exec_store {t:TypeId} {x v:Operand} {i:TypeInfo} (h:o.op = .store t x v) (hi:P.info? t = some i) {b off:Nat} (hx:ρ x = .pointer (some ⟨b,off,none⟩)) {vs:Array Value} {ty:TypeId}
  (hb:w.heap[b]? = some (.cells vs ty (0,0))) (hl:(ρ v).cells.size = i.size) (hfit:off + i.size ≤ vs.size) (h1 : ∀ u ∈ (ρ v).cells.toList,u.oneCell' = true) :
  ∃ (w':World) (vs':Array Value),(execOp ρ o).run P w = .ok .skip w' ∧ w'.heap[b]? = some (.cells vs' ty (0,0)) ∧ vs'.size = vs.size ∧
   (∀ j,vs'.toList[j]? = if off ≤ j ∧ j < off + i.size then (ρ v).cells.toList[j - off]? else vs.toList[j]?) ∧ w'.os = w.os ∧ w'.tape = w.tape ∧ w'.output = w.output ∧ w'.heap.size = w.heap.size ∧ ∀ k,k ≠ b → w'.heap[k]? = w.heap[k]?:=by
 obtain ⟨w',vs',hr,h2,h3,h4,h5⟩:=setCells_spec (P:=P) (ρ v).cells.toList w b off vs ty 0 hb (by simp [hl]; omega) h1
 refine ⟨w',vs',?_,h2,h3,fun j=>?_,h5⟩
 ·unfold execOp
  simp only [h,hx]
  simp [Instr.storeAt,Instr.sureAddr,storeVar,run_sizeOf hi,hl,hr]
 ·have:=h4 j
  simpa [hl] using this
theorem splice_get (cs vs:List PVal) (off j:Nat) (hfit:off + vs.length ≤ cs.length):(splice cs off vs)[j]? = if off ≤ j ∧ j < off + vs.length then vs[j - off]? else cs[j]?:=by
 unfold splice
 split
 ·rename_i v
  rw [List.getElem?_set]
  by_cases hj:off = j
  ·subst hj
   have hlt:off < cs.length:=by simp at hfit; omega
   simp [hlt]
  ·rw [if_neg hj,if_neg (by simp; omega)]
 ·by_cases h1:j < off
  ·rw [if_neg (by omega),List.append_assoc,List.getElem?_append_left (by simp; omega),List.getElem?_take,if_pos h1]
  ·by_cases h2:j < off + vs.length
   ·rw [if_pos ⟨by omega,h2⟩,List.append_assoc,List.getElem?_append_right (by simp; omega),List.getElem?_append_left (by simp; omega)]
    congr 1
    simp
    omega
   ·rw [if_neg (by omega),List.getElem?_append_right (by simp; omega),List.getElem?_drop]
    congr 1
    simp
    omega
theorem splice_length (cs vs:List PVal) (off:Nat) (hfit:off + vs.length ≤ cs.length):(splice cs off vs).length = cs.length:=by
 unfold splice
 split
 ·simp
 ·simp; omega
theorem Out.change (hH:SimH D m ok heap w) {id:AId} {B:Blk} {b tot:Nat} (hB:m id = some (.at b tot)) (obj:AObj) (rh:List AId) {w':World} (hr:(execOp ρ o).run P w = .ok .skip w')
  (hos:w'.os = w.os) (ht:w'.tape = w.tape) (hou:w'.output = w.output) (hsz:w'.heap.size = w.heap.size) (hk : ∀ k,k ≠ b → w'.heap[k]? = w.heap[k]?)
  (hobj:Step m w m w' → RepObj w' ok D m obj (.at b tot)) :
  Out P o ρ D m ok heap w { v:=.hole,rh,wh:=[(id,some obj)] }:=by
 have hm':(fun i=>if i = id then some (Blk.at b tot) else if some id = some i then none else m i) = m:=by
  funext i
  by_cases e:i = id
  ·subst e; simp [hB]
  ·have : ¬ id = i:=fun e'=>e e'.symm
   simp [e,this]
 have hD':(fun i=>D i ∨ i = id) = D:=by
  funext i
  have:i = id → D i:=fun e=>by subst e; exact hH.dom _ _ hB
  exact propext ⟨fun h=>h.elim (fun h=>h) this,.inl⟩
 obtain ⟨h1,h2,h3⟩:=hH.reloc (w':=w') (some id) id (.at b tot) obj hos ⟨ht,fun _=>run_drawn hr⟩ hou (by omega)
  (fun k hk' hn=>hk k (fun e=>hn id tot rfl (by rw [e]; exact hB))) (.inl ⟨rfl,hB⟩)
  (fun b' t' e=>by injection e with e1 e2; subst e1; exact ⟨by rw [hsz]; exact hH.lt _ _ _ hB,.inr ⟨id,tot,rfl,hB⟩⟩)
  (fun hst=>by rw [hm'] at hst ⊢; rw [hD']; exact hobj hst)
 rw [hm'] at h1 h2
 rw [hD'] at h1
 refine ⟨undef,w',D,m,.inr ⟨rfl,hr⟩,?_,h2,.hole,fun i=>by simp,fun _ _=>.inl rfl⟩
 rw [happ_one]
 have:(fun i=>if i = id then some obj else heap i) = (fun i=>if i = id then some obj else if some id = some i then none else heap i):=by
  funext i
  by_cases e:i = id
  ·simp [e]
  ·have : ¬ id = i:=fun e'=>e e'.symm
   simp [e,this]
 rw [this]
 exact h1
theorem core_store {t:TypeId} {x v:Operand} {i:TypeInfo} {p q:PVal} (h:o.op = .store t x v) (hi:P.info? t = some i) (hH:SimH D m ok heap w) (hx:Rep w (okn ok m) D m false p (ρ x)) (hv:Rep w (okn ok m) D m false q (ρ v))
  (hc:core (.store i.size) [p,q] heap nx = some r):Out P o ρ D m ok heap w r:=by
 cases p <;> simp only [core] at hc
 case ptr id off =>
  cases ho:heap id with
  | none=>simp [ho] at hc
  | some ob =>
   cases ob with
   | box cs =>
    cases hq:q.cells with
    | none=>simp [ho,hq] at hc
    | some us =>
     simp only [ho,hq] at hc
     split at hc
     ·rename_i hcond
      obtain ⟨hul,hfit⟩:=hcond
      injection hc with hc
      subst hc
      obtain ⟨B,hB,hob⟩:=hH.obj id _ ho
      cases B with
      | nil=>exact hob.elim
      | «at» b tt =>
       obtain ⟨h1,h2⟩:=cells_rep hv hq
       obtain ⟨vs,ty,g1,g2,g3⟩:=hob
       cases hx with
       | ptr _ _ hp =>
        obtain ⟨w',vs',e1,e2,e3,e4,e5,e6,e7,e8,e9⟩:=exec_store (P:=P) (ρ:=ρ) h hi (hp b tt hB) g1 (by have:=h2.1; simp at this; omega) (by rw [g2]; exact hfit) h1
        refine Out.change hH (B:=.at b tt) hB _ _ e1 e5 e6 e7 e8 e9 (fun hst=>⟨vs',ty,e2,by rw [e3,g2,splice_length _ _ _ (by omega)],fun j pj hj=>?_⟩)
        rw [splice_get _ _ _ _ (by omega)] at hj
        have e4j:=e4 j
        rw [hul] at hj
        by_cases hin:off ≤ j ∧ j < off + i.size
        ·rw [if_pos hin] at hj e4j
         have hlt:j - off < (ρ v).cells.toList.length:=by rw [← h2.1]; exact (List.getElem?_eq_some_iff.1 hj).1
         rw [List.getElem?_eq_getElem hlt] at e4j
         exact ⟨_,by rw [← Array.getElem?_toList]; exact e4j,h1 _ (List.getElem_mem hlt),(h2.2 _ _ _ hj (List.getElem?_eq_getElem hlt)).step hst (fun _ hd=>hd) (fun _ _=>.inl rfl)⟩
        ·rw [if_neg hin] at hj e4j
         obtain ⟨u,k1,k2,k3⟩:=g3 j pj hj
         exact ⟨u,by rw [← Array.getElem?_toList,e4j,Array.getElem?_toList]; exact k1,k2,k3.step hst (fun _ hd=>hd) (fun _ _=>.inl rfl)⟩
     ·cases hc
   | row=>simp [ho] at hc
   | mp=>simp [ho] at hc
   | mq=>simp [ho] at hc
   | full=>simp [ho] at hc
 case eptr id sz j off =>
  cases ho:heap id with
  | none=>simp [ho] at hc
  | some ob =>
   cases ob with
   | row sz' ty es =>
    cases hq:q.cells with
    | none=>simp [ho,hq] at hc
    | some us =>
     simp only [ho,hq] at hc
     split at hc
     ·rename_i hcond
      obtain ⟨hsz,hj,hul,hfit,hcl⟩:=hcond
      subst hsz
      injection hc with hc
      subst hc
      obtain ⟨B,hB,hob⟩:=hH.obj id _ ho
      cases B with
      | nil=>obtain ⟨rfl,_⟩:=hob; simp at hj
      | «at» b tt =>
       obtain ⟨h1,h2⟩:=cells_rep (hv.close hcl) hq
       obtain ⟨vs0,hh,_,_,hbd,hl⟩:=row_reps hob hj
       obtain ⟨vs,g1,g2,g3,g3',g4,g5,g6⟩:=hob
       have hvs0:vs0.size = vs.size:=by rw [g1] at hh; injection hh with hh; injection hh with hh; rw [← hh]
       cases hx with
       | eptr _ _ hp =>
        obtain ⟨w',vs',e1,e2,e3,e4,e5,e6,e7,e8,e9⟩:=exec_store (P:=P) (ρ:=ρ) h hi (hp b tt hB) g1 (by have:=h2.1; simp at this; omega) (by omega) h1
        refine Out.change hH (B:=.at b tt) hB _ _ e1 e5 e6 e7 e8 e9 (fun hst=>⟨vs',e2,by rw [e3,g2],by simpa using g3,g3',g4,fun e he=>?_,fun i' j' e pj he hp'=>?_⟩)
        ·rcases List.mem_or_eq_of_mem_set he with he | rfl
         ·exact g5 e he
         ·rw [splice_length _ _ _ (by omega)]; exact hl
        ·have e4j:=e4 (i' * sz' + j')
         rw [List.getElem?_set] at he
         by_cases hij:j = i'
         ·subst hij
          rw [if_pos rfl,if_pos hj] at he
          injection he with he
          subst he
          rw [splice_get _ _ _ _ (by omega),hul] at hp'
          by_cases hin:off ≤ j' ∧ j' < off + i.size
          ·rw [if_pos hin] at hp'
           rw [if_pos (by omega)] at e4j
           have hlt:j' - off < (ρ v).cells.toList.length:=by rw [← h2.1]; exact (List.getElem?_eq_some_iff.1 hp').1
           rw [show j * sz' + j' - (j * sz' + off) = j' - off by omega,List.getElem?_eq_getElem hlt] at e4j
           exact ⟨_,by rw [← Array.getElem?_toList]; exact e4j,h1 _ (List.getElem_mem hlt),(h2.2 _ _ _ hp' (List.getElem?_eq_getElem hlt)).step hst (fun _ hd=>hd) (fun _ _=>.inl rfl)⟩
          ·rw [if_neg hin] at hp'
           rw [if_neg (by omega)] at e4j
           have he':es[j]? = some (es.getD j []):=by simp [List.getD,List.getElem?_eq_getElem hj]
           obtain ⟨u,k1,k2,k3⟩:=g6 j j' _ pj he' hp'
           exact ⟨u,by rw [← Array.getElem?_toList,e4j,Array.getElem?_toList]; exact k1,k2,k3.step hst (fun _ hd=>hd) (fun _ _=>.inl rfl)⟩
         ·rw [if_neg hij] at he
          obtain ⟨u,k1,k2,k3⟩:=g6 i' j' _ pj he hp'
          have hj':j' < sz':=by rw [← g5 e (List.mem_of_getElem? he)]; exact (List.getElem?_eq_some_iff.1 hp').1
          have hne : ¬ (j * sz' + off ≤ i' * sz' + j' ∧ i' * sz' + j' < j * sz' + off + i.size):=by
           rintro ⟨q1,q2⟩
           rcases Nat.lt_or_ge j i' with hlt | hge
           ·have:=Nat.mul_le_mul_right sz' (show j + 1 ≤ i' from hlt)
            rw [Nat.succ_mul] at this
            omega
           ·have:=Nat.mul_le_mul_right sz' (show i' + 1 ≤ j by omega)
            rw [Nat.succ_mul] at this
            omega
          rw [if_neg hne] at e4j
          exact ⟨u,by rw [← Array.getElem?_toList,e4j,Array.getElem?_toList]; exact k1,k2,k3.step hst (fun _ hd=>hd) (fun _ _=>.inl rfl)⟩
     ·cases hc
   | box=>simp [ho] at hc
   | mp=>simp [ho] at hc
   | mq=>simp [ho] at hc
   | full=>simp [ho] at hc
 all_goals (cases hc)
end
end Go.Proofs.YtakallenldpkiaaGreatDoor.Abs
