/- Each operation of the abstract machine is what the model's operation does: addresses, values that are built, append. Generic over any program. -/
import Derived.Test.YtakallenldpkiaaGreatDoorA6
set_option linter.unusedVariables false
set_option linter.unusedSimpArgs false
set_option linter.unusedSectionVars false
namespace Go.Proofs.YtakallenldpkiaaGreatDoor.Abs
open Go
variable [DqC]
section
variable {P:Program} {o:Oper} {ρ:Operand → Value} {D:AId → Prop} {m:AId → Option Blk} {ok:Nat → Prop} {heap:AId → Option AObj} {w:World} {nx:AId} {r:R}
theorem obj_at (hH:SimH D m ok heap w) {id:AId} {cs:List PVal} (ho:heap id = some (.box cs)) : ∃ b t,m id = some (.at b t) ∧ RepObj w ok D m (.box cs) (.at b t):=by
 obtain ⟨B,hB,hob⟩:=hH.obj id _ ho
 cases B with
 | nil=>exact hob.elim
 | «at» b t=>exact ⟨b,t,hB,hob⟩
theorem row_at (hH:SimH D m ok heap w) {id:AId} {sz ty:Nat} {es:List (List PVal)} (ho:heap id = some (.row sz ty es)) (hn:0 < es.length) : ∃ b t,m id = some (.at b t) ∧ RepObj w ok D m (.row sz ty es) (.at b t):=by
 obtain ⟨B,hB,hob⟩:=hH.obj id _ ho
 cases B with
 | nil=>obtain ⟨rfl,_⟩:=hob; simp at hn
 | «at» b t=>exact ⟨b,t,hB,hob⟩
theorem rep_fn {c:Bool} {f:FuncId} {a b:List PVal} {v:Value} (h:Rep w ok D m c (.fn f a b) v) : ∃ fv cv:Array Value,v = .func (.func f) fv cv:=by
 cases h; exact ⟨_,_,rfl⟩
theorem core_nilchk {x:Operand} {p:PVal} (h:o.op = .nilCheck x) (hH:SimH D m ok heap w) (hx:Rep w (okn ok m) D m false p (ρ x)) (hc:core .nilchk [p] heap nx = some r):Out P o ρ D m ok heap w r:=by
 cases p <;> simp only [core,coreNil] at hc
 case ptr id off =>
  cases ho:heap id with
  | none=>simp [ho] at hc
  | some ob =>
   cases ob <;> simp [ho] at hc
   subst hc
   obtain ⟨b,t,hB,_⟩:=obj_at hH ho
   refine Out.pure hH _ (v:=ρ x) ?_ hx
   cases hx with
   | ptr _ _ hp =>
    unfold execOp
    simp only [h,hp b t hB]
    rfl
 case eptr id sz j off =>
  cases ho:heap id with
  | none=>simp [ho] at hc
  | some ob =>
   cases ob <;> simp only [ho] at hc
   case row sz' ty es =>
    split at hc
    ·rename_i hcond
     injection hc with hc
     subst hc
     obtain ⟨b,t,hB,_⟩:=row_at hH ho (by omega)
     refine Out.pure hH _ (v:=ρ x) ?_ hx
     cases hx with
     | eptr hd _ hp =>
      unfold execOp
      simp only [h,hp b t hB]
      rfl
    ·cases hc
   all_goals cases hc
 case rptr cs =>
  injection hc with hc
  subst hc
  obtain ⟨ad,e⟩:=rep_rptr hx
  refine Out.pure hH _ (v:=ρ x) ?_ hx
  unfold execOp
  simp only [h,e]
  rfl
 case fn f a b =>
  injection hc with hc
  subst hc
  refine Out.pure hH _ (v:=ρ x) ?_ hx
  obtain ⟨fv,cv,e⟩:=rep_fn hx
  unfold execOp
  simp only [h,e]
  rfl
 all_goals cases hc
theorem exec_fieldA {s:TypeId} {x:Operand} {f:Nat} {fields:Array Field} {fl:Field} {i:TypeInfo} (h:o.op = .fieldAddr s x f) (hs:P.underlying s = some (.struct fields)) (hf:fields[f]? = some fl) (hi:P.info? fl.type = some i) (hn:i.size ≠ 0)
  {ad:Addr} (hx:ρ x = .pointer (some ad)):(execOp ρ o).run P w = .ok (.value (.pointer (some (ad.add fl.offset)))) w:=by
 unfold execOp
 simp only [h,hx]
 simp [Instr.fieldAt,run_underlying hs,hf,Instr.sureAddr,fieldPlace,run_sizeOf hi,hn]
theorem core_fldA {s:TypeId} {x:Operand} {f:Nat} {fields:Array Field} {fl:Field} {i:TypeInfo} {p:PVal} (h:o.op = .fieldAddr s x f) (hs:P.underlying s = some (.struct fields)) (hf:fields[f]? = some fl) (hi:P.info? fl.type = some i) (hn:i.size ≠ 0)
  (hH:SimH D m ok heap w) (hx:Rep w (okn ok m) D m false p (ρ x)) (hc:core (.fldA fl.offset) [p] heap nx = some r):Out P o ρ D m ok heap w r:=by
 cases p <;> simp only [core] at hc
 case ptr id off =>
  cases ho:heap id with
  | none=>simp [ho] at hc
  | some ob =>
   cases ob <;> simp [ho] at hc
   subst hc
   obtain ⟨b,t,hB,_⟩:=obj_at hH ho
   cases hx with
   | ptr hd _ hp =>
    refine Out.pure hH _ (exec_fieldA h hs hf hi hn (hp b t hB)) (.ptr hd rfl fun b' t' e=>?_)
    rw [hB] at e; injection e with e; injection e with e1 _; subst e1
    rw [add_flat]
 case eptr id sz j off =>
  cases ho:heap id with
  | none=>simp [ho] at hc
  | some ob =>
   cases ob <;> simp only [ho] at hc
   case row sz' ty es =>
    split at hc
    ·rename_i hcond
     injection hc with hc
     subst hc
     obtain ⟨b,t,hB,_⟩:=row_at hH ho (by omega)
     cases hx with
     | eptr hd _ hp =>
      refine Out.pure hH _ (exec_fieldA h hs hf hi hn (hp b t hB)) (.eptr hd rfl fun b' t' e=>?_)
      rw [hB] at e; injection e with e; injection e with e1 _; subst e1
      rw [add_flat,Nat.add_assoc]
    ·cases hc
   all_goals cases hc
 case rptr cs =>
  injection hc with hc
  subst hc
  obtain ⟨ad,e⟩:=rep_rptr hx
  rw [e] at hx
  exact Out.pure hH _ (exec_fieldA h hs hf hi hn e) (rptr_drop hx _)
 all_goals cases hc
theorem run_part {t:TypeId} {d:TypeDesc} {i:TypeInfo} (hd:P.underlying t = some d) (hi:P.info? t = some i) (vs:List Value) (off:Nat) (hl:((vs.drop off).take (if isAggD d then i.size else 1)).length = if isAggD d then i.size else 1) :
  (part t vs.toArray off).run P w = .ok (if isAggD d then .agg ((vs.drop off).take (if isAggD d then i.size else 1)).toArray else ((vs.drop off).take (if isAggD d then i.size else 1)).headD undef) w:=by
 cases hg:isAggD d with
 | true =>
  rw [run_part_agg hd hg hi]
  simp [List.take_drop]
 | false =>
  simp only [hg,Bool.false_eq_true,if_false] at hl ⊢
  have hlt:off < vs.length:=by simp at hl; omega
  have e:(vs.drop off).take 1 = [vs[off]]:=by rw [List.drop_eq_getElem_cons hlt]; rfl
  rw [e]
  exact run_part_leaf hd hg _ _ _ (by simp [hlt])
theorem core_fld {s:TypeId} {x:Operand} {f:Nat} {fields:Array Field} {fl:Field} {k:Option Nat} {p:PVal} (h:o.op = .field s x f) (hs:P.underlying s = some (.struct fields)) (hf:fields[f]? = some fl) (hk:kindOf P fl.type = some k)
  (hH:SimH D m ok heap w) (hx:Rep w (okn ok m) D m false p (ρ x)) (hc:core (.fld fl.offset k) [p] heap nx = some r):Out P o ρ D m ok heap w r:=by
 obtain ⟨d,i,hd,hi,rfl⟩:=kindOf_some hk
 cases p <;> simp only [core] at hc
 case agg cs =>
  obtain ⟨v,hv,rfl⟩:=Option.map_eq_some_iff.1 hc
  obtain ⟨vs,e,h2,h3⟩:=rep_agg hx
  obtain ⟨h4,h5⟩:=peek_rep h2 h3 hv
  refine Out.pure hH _ ?_ h5
  unfold execOp
  simp only [h,e]
  simp [Instr.field,run_underlying hs,hf,asAgg,run_part hd hi vs _ h4]
 all_goals cases hc
theorem exec_idxS {t e:TypeId} {x ix:Operand} {ti:TypeInfo} (h:o.op = .indexAddr t x ix) (ht:P.underlying t = some (.slice e)) (hi:P.info? e = some ti) {ad:Addr} {n cap:Nat} {k:IntKind} {i:Int} (hx:ρ x = .slice (some ad) n cap) (hix:ρ ix = .int k i)
  (h0:0 ≤ i) (h1:i < n):(execOp ρ o).run P w = .ok (.value (.pointer (some (ad.add (i.toNat * ti.size))))) w:=by
 unfold execOp
 simp only [h,hx,hix]
 simp [Instr.indexAt,asIntOf,run_underlying ht,h0,h1,run_sizeOf hi]
theorem core_idxA {t e:TypeId} {x ix:Operand} {ti:TypeInfo} {p q:PVal} (h:o.op = .indexAddr t x ix) (ht:P.underlying t = some (.slice e)) (hi:P.info? e = some ti) (hH:SimH D m ok heap w) (hx:Rep w (okn ok m) D m false p (ρ x)) (hy:Rep w (okn ok m) D m false q (ρ ix))
  (hc:core (.idxA ti.size) [p,q] heap nx = some r):Out P o ρ D m ok heap w r:=by
 cases p <;> cases q <;> simp only [core] at hc
 case ro.int sz es k i =>
  split at hc
  ·rename_i hcond
   obtain ⟨hsz,h0,h1⟩:=hcond
   subst hsz
   injection hc with hc
   subst hc
   obtain ⟨A,n,cap,e1,e2,e3,e4,e5,e6⟩:=ro_elem hx
   obtain ⟨ad,rfl,hr⟩:=e6 i.toNat (by omega)
   exact Out.pure hH _ (exec_idxS h ht hi e1 (rep_int hy) h0 (by omega)) hr.opened
  ·cases hc
 case own.int id sz lo n k i =>
  cases ho:heap id with
  | none=>simp [ho] at hc
  | some ob =>
   cases ob <;> simp only [ho] at hc
   case row sz' ty es =>
    split at hc
    ·rename_i hcond
     obtain ⟨hsz,hsz',hlen,h0,h1⟩:=hcond
     subst hsz
     subst hsz'
     injection hc with hc
     subst hc
     obtain ⟨b,t',hB,_⟩:=row_at hH ho (by omega)
     cases hx with
     | own hd _ hp =>
      obtain ⟨a,cap,e1,e2,e3,e4,e5,e6,e7⟩:=hp _ hB
      have hoff:a.off = lo * ti.size:=by
       rcases e4 with e4 | e4
       ·exact e4
       ·omega
      refine Out.pure hH _ (exec_idxS h ht hi e1 (rep_int hy) h0 h1) (.eptr hd rfl fun b' t'' e=>?_)
      rw [hB] at e; injection e with e; injection e with e1' _; subst e1'
      obtain ⟨ab,ao,as⟩:=a
      simp only at e2 e3 hoff
      subst e2 e3 hoff
      rw [add_flat,Nat.add_mul,Nat.add_zero]
    ·cases hc
   case box cs =>
    split at hc
    ·rename_i hcond
     obtain ⟨hsz,h0,h1⟩:=hcond
     subst hsz
     injection hc with hc
     subst hc
     obtain ⟨b,t',hB,_⟩:=obj_at hH ho
     cases hx with
     | own hd _ hp =>
      obtain ⟨a,cap,e1,e2,e3,e4,e5,e6,e7⟩:=hp _ hB
      have hoff:a.off = lo * ti.size:=by
       rcases e4 with e4 | e4
       ·exact e4
       ·omega
      refine Out.pure hH _ (exec_idxS h ht hi e1 (rep_int hy) h0 h1) (.ptr hd rfl fun b' t'' e=>?_)
      rw [hB] at e; injection e with e; injection e with e1' _; subst e1'
      obtain ⟨ab,ao,as⟩:=a
      simp only at e2 e3 hoff
      subst e2 e3 hoff
      rw [add_flat,Nat.add_mul]
    ·cases hc
   all_goals cases hc
 all_goals cases hc
theorem exec_idxArr {t e:TypeId} {len:Nat} {x ix:Operand} {ti:TypeInfo} (h:o.op = .indexAddr t x ix) (ht:P.underlying t = some (.array len e)) (hi:P.info? e = some ti) {ad:Addr} {k:IntKind} {i:Int} (hx:ρ x = .pointer (some ad)) (hix:ρ ix = .int k i)
  (h0:0 ≤ i) (h1:i < len):(execOp ρ o).run P w = .ok (.value (.pointer (some (ad.add (i.toNat * ti.size))))) w:=by
 unfold execOp
 simp only [h,hx,hix]
 simp [Instr.indexAt,asIntOf,run_underlying ht,h0,h1,run_sizeOf hi,Instr.sureAddr]
theorem core_idxAA {t e:TypeId} {len:Nat} {x ix:Operand} {ti:TypeInfo} {p q:PVal} (h:o.op = .indexAddr t x ix) (ht:P.underlying t = some (.array len e)) (hi:P.info? e = some ti) (hH:SimH D m ok heap w) (hx:Rep w (okn ok m) D m false p (ρ x)) (hy:Rep w (okn ok m) D m false q (ρ ix))
  (hc:core (.idxAA len ti.size) [p,q] heap nx = some r):Out P o ρ D m ok heap w r:=by
 cases p <;> cases q <;> simp only [core] at hc
 case ptr.int id off k i =>
  cases ho:heap id with
  | none=>simp [ho] at hc
  | some ob =>
   cases ob <;> simp only [ho] at hc
   case box cs =>
    split at hc
    ·rename_i hcond
     injection hc with hc
     subst hc
     obtain ⟨b,t',hB,_⟩:=obj_at hH ho
     cases hx with
     | ptr hd _ hp =>
      refine Out.pure hH _ (exec_idxArr h ht hi (hp b t' hB) (rep_int hy) hcond.1 hcond.2) (.ptr hd rfl fun b' t'' e=>?_)
      rw [hB] at e; injection e with e; injection e with e1 _; subst e1
      rw [add_flat]
    ·cases hc
   all_goals cases hc
 case rptr.int cs k i =>
  split at hc
  ·rename_i hcond
   injection hc with hc
   subst hc
   obtain ⟨ad,e1⟩:=rep_rptr hx
   rw [e1] at hx
   exact Out.pure hH _ (exec_idxArr h ht hi e1 (rep_int hy) hcond.1 hcond.2) (rptr_drop hx _)
  ·cases hc
 case eptr.int id esz j off k i =>
  cases ho:heap id with
  | none=>simp [ho] at hc
  | some ob =>
   cases ob <;> simp only [ho] at hc
   case row esz' ty es =>
    split at hc
    ·rename_i hcond
     injection hc with hc
     subst hc
     obtain ⟨b,t',hB,_⟩:=row_at hH ho (by omega)
     cases hx with
     | eptr hd _ hp =>
      refine Out.pure hH _ (exec_idxArr h ht hi (hp b t' hB) (rep_int hy) hcond.2.2.1 hcond.2.2.2) (.eptr hd rfl fun b' t'' e=>?_)
      rw [hB] at e; injection e with e; injection e with e1 _; subst e1
      rw [add_flat,Nat.add_assoc]
    ·cases hc
   all_goals cases hc
 all_goals cases hc
theorem core_idxV {t e:TypeId} {len:Nat} {x ix:Operand} {ti:TypeInfo} {kk:Option Nat} {p q:PVal} (h:o.op = .index t x ix) (ht:P.underlying t = some (.array len e)) (hi:P.info? e = some ti) (hk:kindOf P e = some kk) (hH:SimH D m ok heap w) (hx:Rep w (okn ok m) D m false p (ρ x)) (hy:Rep w (okn ok m) D m false q (ρ ix))
  (hc:core (.idxV len ti.size kk) [p,q] heap nx = some r):Out P o ρ D m ok heap w r:=by
 obtain ⟨d,i',hd,hi',rfl⟩:=kindOf_some hk
 obtain rfl:i' = ti:=by rw [hi'] at hi; injection hi
 cases p <;> cases q <;> simp only [core] at hc
 case agg.int cs k i =>
  split at hc
  ·rename_i hcond
   obtain ⟨v,hv,rfl⟩:=Option.map_eq_some_iff.1 hc
   obtain ⟨vs,e1,h2,h3⟩:=rep_agg hx
   obtain ⟨h4,h5⟩:=peek_rep h2 h3 hv
   refine Out.pure hH _ ?_ h5
   unfold execOp
   simp only [h,e1,rep_int hy]
   simp [Instr.index,asIntOf,run_underlying ht,hcond,run_sizeOf hi',run_part hd hi' vs _ h4]
  ·cases hc
 all_goals cases hc
theorem core_idxStr {t:TypeId} {x ix:Operand} {p q:PVal} (h:o.op = .index t x ix) (ht:P.underlying t = some .string) (hH:SimH D m ok heap w) (hx:Rep w (okn ok m) D m false p (ρ x)) (hy:Rep w (okn ok m) D m false q (ρ ix))
  (hc:core .idxS [p,q] heap nx = some r):Out P o ρ D m ok heap w r:=by
 cases p <;> cases q <;> simp only [core] at hc
 case str.int s k i =>
  split at hc
  ·rename_i hcond
   obtain ⟨b,hb,rfl⟩:=Option.map_eq_some_iff.1 hc
   refine Out.pure hH _ (v:=.int .u8 b.toNat) ?_ .int
   have hlt:i.toNat < s.size:=by omega
   have hb':s[i.toNat]? = some b:=by
    rw [Array.getElem?_toList] at hb
    obtain ⟨h1,h2⟩:=Array.getElem?_eq_some_iff.1 hb
    simp only [getElem?_pos s i.toNat hlt]
    rw [← h2]; rfl
   unfold execOp
   simp only [h,rep_str hx,rep_int hy]
   rw [getElem?_pos s i.toNat hlt] at hb'
   injection hb' with hb'
   simp [Instr.index,asIntOf,run_underlying ht,hcond,hlt,hb']
  ·cases hc
 all_goals cases hc
end
end Go.Proofs.YtakallenldpkiaaGreatDoor.Abs
