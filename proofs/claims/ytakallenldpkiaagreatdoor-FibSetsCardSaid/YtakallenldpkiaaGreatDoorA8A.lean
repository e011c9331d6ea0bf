/- append. Generic over any program. -/
import Derived.Test.YtakallenldpkiaaGreatDoorA8F
set_option linter.unusedVariables false
set_option linter.unusedSimpArgs false
set_option linter.unusedSectionVars false
namespace Go.Proofs.YtakallenldpkiaaGreatDoor.Abs
open Go
variable [DqC]
section
variable {P:Program} {o:Oper} {ρ:Operand → Value} {D:AId → Prop} {m:AId → Option Blk} {ok:Nat → Prop} {heap:AId → Option AObj} {w:World} {nx:AId} {r:R}
theorem exec_append {args:Array Operand} {ats:Array TypeId} {s x:Operand} {t:TypeId} (h:o.op = .call { callee:=.builtin .append,args,argTypes:=ats }) (ha:args.toList = [s,x]) (hat:ats.toList = [t,t]) {v:Value} {w':World}
  (hv:(Builtin.append_ #[t,t] o.type #[ρ s,ρ x]).run P w = .ok v w'):(execOp ρ o).run P w = .ok (.value v) w':=by
 have ha':args = #[s,x]:=by rw [← Array.toArray_toList (xs:=args),ha]
 have hat':ats = #[t,t]:=by rw [← Array.toArray_toList (xs:=ats),hat]
 unfold execOp
 simp only [h,ha',hat']
 simp [resolve,invoke,builtin,hv]
theorem own_row (hH:SimH D m ok heap w) {id:AId} {sz ty:Nat} {es:List (List PVal)} (ho:heap id = some (.row sz ty es)) (hnil:m id ≠ some .nil) {v:Value} (hv:Rep w (okn ok m) D m false (.own id sz 0 es.length) v) :
  ∃ (ls:List (List Value)),ls.length = es.length ∧ (∀ l ∈ ls,l.length = sz) ∧ (∀ l ∈ ls,∀ u ∈ l,u.oneCell' = true) ∧ (∀ (i:Nat) (e:List PVal) (l:List Value),es[i]? = some e → ls[i]? = some l → Reps w (okn ok m) D m true e l) ∧
   w.ownsRow 0 ty sz v es.length ls.flatten ∧ (∀ e ∈ es,e.length = sz) ∧ 0 < sz ∧ ∀ k,v.ownBlock = some k → ∃ t,m id = some (.at k t):=by
 obtain ⟨B,hB,hob⟩:=hH.obj id _ ho
 cases hv with
 | own hd _ hp =>
  have hv:=hp B hB
  cases B with
  | nil=>exact absurd hB hnil
  | «at» b tot =>
   obtain ⟨a,cap,g1,g2,g3,g4,g5,g6,g7⟩:=hv
   have hob':=hob
   obtain ⟨vs,k1,k2,k3,k4,k5,k6,k7⟩:=hob
   have hls : ∀ l ∈ (List.range es.length).map (fun i=>(vs.toList.drop (i * sz)).take sz),l.length = sz:=by
    intro l hl
    obtain ⟨i,hi,rfl⟩:=List.mem_map.1 hl
    have hi:=List.mem_range.1 hi
    have hm:(i + 1) * sz ≤ tot * sz:=Nat.mul_le_mul_right _ (by omega)
    rw [Nat.succ_mul] at hm
    simp [k2]; omega
   have hflat:((List.range es.length).map (fun i=>(vs.toList.drop (i * sz)).take sz)).flatten = vs.toList.take (es.length * sz):=by
    apply List.ext_getElem?
    intro j
    have hfl:=flat_len hls
    simp only [List.length_map,List.length_range] at hfl
    by_cases hj:j < es.length * sz
    ·have hi:j / sz < es.length:=(Nat.div_lt_iff_lt_mul k5).2 hj
     have hjm:j % sz < sz:=Nat.mod_lt _ k5
     have hg:=flat_get hls (i:=j / sz) (j:=j % sz) (l:=(vs.toList.drop (j / sz * sz)).take sz) (by rw [List.getElem?_map,List.getElem?_range hi]; rfl) hjm
     have hdm:j / sz * sz + j % sz = j:=Nat.div_add_mod' j sz
     rw [hdm,List.getElem?_take,if_pos hjm,List.getElem?_drop,hdm] at hg
     rw [hg,List.getElem?_take,if_pos hj]
    ·rw [List.getElem?_eq_none (by omega),List.getElem?_eq_none (by simp; omega)]
   have htk:(vs.toList.take (es.length * sz)).length = es.length * sz:=by
    have hv1:vs.toList.length = tot * sz:=by rw [Array.length_toList]; exact k2
    rw [List.length_take,hv1]
    exact Nat.min_eq_left (Nat.mul_le_mul_right _ k3)
   refine ⟨(List.range es.length).map (fun i=>(vs.toList.drop (i * sz)).take sz),by simp,hls,fun l hl u hu=>?_,fun i e l he hl=>?_,⟨by rw [hflat]; exact htk,?_⟩,k6,k5,fun k hk=>?_⟩
   ·obtain ⟨i,hi,rfl⟩:=List.mem_map.1 hl
    have hi:=List.mem_range.1 hi
    obtain ⟨vs2,q1,q2,q3,q4,q5⟩:=row_reps hob' hi
    rw [k1] at q1; injection q1 with q1; injection q1 with q1; subst q1
    exact q3 u hu
   ·have hi:=(List.getElem?_eq_some_iff.1 he).1
    rw [List.getElem?_map,List.getElem?_range hi] at hl
    injection hl with hl
    subst hl
    obtain ⟨vs2,q1,q2,q3,q4,q5⟩:=row_reps hob' hi
    rw [k1] at q1; injection q1 with q1; injection q1 with q1; subst q1
    have:es.getD i [] = e:=by simp [List.getD,he]
    rw [this] at q2
    exact q2
   ·refine .inr ⟨b,cap,vs,?_,Nat.zero_le _,k1,g5,by omega,by rw [k2]; congr 1; omega,by rw [hflat]⟩
    rw [g1]
    obtain ⟨ab,ao,as⟩:=a
    simp only at g2 g3 g4
    subst g2 g3
    rcases g4 with g4 | g4
    ·subst g4; simp
    ·exact absurd g4.2 (by omega)
   ·rw [g1] at hk
    simp [Value.ownBlock] at hk
    exact ⟨tot,by rw [← hk,g2]; exact hB⟩
theorem row_of_owns {w1:World} {ok:Nat → Prop} {sz ty:Nat} {es:List (List PVal)} {ls:List (List Value)} {v:Value} (hown:w1.ownsRow 0 ty sz v es.length ls.flatten) (hsz:0 < sz) (hes : ∀ e ∈ es,e.length = sz) (hls : ∀ l ∈ ls,l.length = sz) (hll:ls.length = es.length)
  (h1 : ∀ l ∈ ls,∀ u ∈ l,u.oneCell' = true) :
  ∃ B,OwnVal B sz 0 es.length v ∧ (∀ b t,B = .at b t → v.ownBlock = some b) ∧ v.oneCell' = true ∧ ∀ (m':AId → Option Blk) (D':AId → Prop),(∀ (i:Nat) (e:List PVal) (l:List Value),es[i]? = some e → ls[i]? = some l → Reps w1 (okn ok m') D' m' true e l) → RepObj w1 ok D' m' (.row sz ty es) B:=by
 rcases hown.2 with ⟨rfl,h0⟩ | ⟨g,cap,cur,rfl,_,k1,k2,k3,k4,k5⟩
 ·exact ⟨.nil,⟨⟨_,rfl⟩,rfl,h0⟩,(fun b t e=>by cases e),rfl,fun _ _ _=>⟨List.eq_nil_of_length_eq_zero h0,hsz⟩⟩
 ·refine ⟨.at g cap,⟨⟨g,0,none⟩,cap,rfl,rfl,rfl,.inl (by simp),k2,by omega,k3⟩,fun b t e=>by injection e with e1 e2; subst e1; rfl,rfl,fun m' D' hr=>?_⟩
  refine row_new k1 k4 ?_ k2 k3 hsz hes hls hll h1 hr
  rw [← k5]
  exact List.take_prefix _ _
theorem append_base0 {t ty e:TypeId} {i:TypeInfo} (ht:P.underlying t = some (.slice e)) (hi:P.info? e = some i) (A A2:Option Addr) (n2 cap2:Nat) (w:World) (hn:0 < n2) (hby:n2 * i.bytes ≤ 140737488355328) :
  (Builtin.append_ #[t,t] ty #[.slice A 0 0,.slice A2 n2 cap2]).run P w = (Builtin.append_ #[t,t] ty #[.slice none 0 0,.slice A2 n2 cap2]).run P w:=by
 cases A with
 | none=>rfl
 | some a =>
  have h1 : ¬ (n2 ≤ 0):=by omega
  have h2:Builtin.nextslicecap n2 0 = n2:=by simp [Builtin.nextslicecap]; omega
  have h3 : ¬ (2 ^ 48 < n2 * i.bytes):=by omega
  simp only [Builtin.append_,List.getElem?_toArray,List.getElem?_cons_zero,List.getElem?_cons_succ,Sem.run_bind,run_underlying ht,Result.andThen_ok,run_sizeOf hi,Sem.run_pure,Builtin.lenOf,Nat.zero_add,h1,if_false,Builtin.firstCells]
  simp [loadCells,loadCellsFrom,typeInfo,hi,h2,h3,Nat.ne_of_gt hn]
theorem core_append {args:Array Operand} {ats:Array TypeId} {s x:Operand} {t e:TypeId} {i:TypeInfo} {z:Value} {p q:PVal} (h:o.op = .call { callee:=.builtin .append,args,argTypes:=ats }) (ha:args.toList = [s,x]) (hat:ats.toList = [t,t])
  (ht:P.underlying t = some (.slice e)) (hi:P.info? e = some i) (hz:i.zero = some z) (hpos:0 < i.size) (hzs:z.cells.size = i.size) (hH:SimH D m ok heap w) (hnx : ¬ D nx) (hs:Rep w (okn ok m) D m false p (ρ s)) (hx:Rep w (okn ok m) D m false q (ρ x))
  (hc:core (.append i.size e i.bytes) [p,q] heap nx = some r):Out P o ρ D m ok heap w r:=by
 simp only [core] at hc
 cases hel:elems heap q with
 | none =>
  simp only [hel] at hc
  cases p <;> simp only at hc <;> try (cases hc; done)
  rename_i id sz1 lo n
  cases ho:heap id with
  | none=>simp [ho] at hc
  | some ob =>
   cases ob <;> simp only [ho] at hc <;> try (cases hc; done)
   rename_i sz1' ty1 es
   cases hel2:elemsU heap (lenP q) q with
   | none=>simp [hel2] at hc
   | some y =>
    obtain ⟨sz2,es2,rh2⟩:=y
    simp only [hel2] at hc
    obtain ⟨A2,n2,cap2,x1,x2,x3,x4⟩:=elemsU_are hH hx hel2
    exact coreAppF_sound h ha hat ht hi hz hpos hzs hH hnx hs ho x1 (by omega) x4 hc
 | some y =>
  obtain ⟨sz2,es2,rh2⟩:=y
  simp only [hel] at hc
  obtain ⟨A2,n2,cap2,x1,x2,x3,x4⟩:=elems_rep hH hx hel
  have main : ∀ (s0:Value),(s0 = ρ s ∨ ((∃ A,ρ s = .slice A 0 0) ∧ s0 = .slice none 0 0 ∧ 0 < n2)) → ∀ (es:List (List PVal)) (ls:List (List Value)) (id0:Option AId) (rh:List AId),sz2 = i.size → ls.length = es.length → (∀ l ∈ ls,l.length = i.size) → (∀ l ∈ ls,∀ u ∈ l,u.oneCell' = true) →
    (∀ (k:Nat) (e:List PVal) (l:List Value),es[k]? = some e → ls[k]? = some l → Reps w (okn ok m) D m true e l) → w.ownsRow 0 e i.size s0 es.length ls.flatten → (∀ e ∈ es,e.length = i.size) →
    (∀ k,s0.ownBlock = some k → ∃ i0 t,id0 = some i0 ∧ m i0 = some (.at k t)) → (es.length + es2.length) * i.bytes ≤ 140737488355328 → es.length + es2.length ≤ maxLen → (∀ i0,id0 = some i0 → D i0) →
    ∃ (v:Value) (w':World),(execOp ρ o).run P w = .ok (.value v) w' ∧ ∃ B1,SimH (fun i=>D i ∨ i = nx) (fun i=>if i = nx then some B1 else if id0 = some i then none else m i) ok (fun j=>if j = nx then some (.row i.size e (es ++ es2)) else if id0 = some j then none else heap j) w' ∧
     Step m w (fun i=>if i = nx then some B1 else if id0 = some i then none else m i) w' ∧ OwnVal B1 i.size 0 (es.length + es2.length) v ∧ v.oneCell' = true ∧
     (∀ id,D id → (fun i=>if i = nx then some B1 else if id0 = some i then none else m i) id = m id ∨ (fun i=>if i = nx then some B1 else if id0 = some i then none else m i) id = none):=by
   intro s0 hs0 es ls id0 rh hsz hll hls h1 hr hown hes hblk hby hmx hid0
   subst hsz
   have hrun : ∃ (v':Value) (w':World) (ls2:List (List Value)),(Builtin.append_ #[t,t] o.type #[s0,ρ x]).run P w = .ok v' w' ∧ w'.ownsRow 0 e i.size v' (es.length + es2.length) (ls ++ ls2).flatten ∧ w.grownBy w' s0.ownBlock ∧
     (v'.ownBlock = s0.ownBlock ∨ v'.ownBlock = some w.heap.size) ∧ ls2.length = es2.length ∧ (∀ l ∈ ls2,l.length = i.size) ∧ (∀ l ∈ ls2,∀ u ∈ l,u.oneCell' = true) ∧ (∀ (k:Nat) (e:List PVal) (l:List Value),es2[k]? = some e → ls2[k]? = some l → Reps w (okn ok m) D m true e l):=by
    rcases Nat.eq_zero_or_pos n2 with h0 | hp
    ·have he2:es2 = []:=List.eq_nil_of_length_eq_zero (by omega)
     subst he2
     rw [x1,h0]
     rcases hown.2 with ⟨hv,h00⟩ | ⟨g,cap,cur,hv,_,k1,k2,k3,k4,k5⟩
     ·refine ⟨.slice none 0 0,w,[],?_,by simpa [hv] using hown,⟨rfl,rfl,rfl,Nat.le_refl _,fun _ _ _=>rfl⟩,by left; rw [hv],rfl,fun l hl=>by simp at hl,fun l hl=>by simp at hl,fun k e l he=>by simp at he⟩
      rw [hv]
      cases A2 <;> simp [Builtin.append_,run_underlying ht,run_sizeOf hi,Builtin.lenOf,Builtin.firstCells,loadCells,loadCellsFrom]
     ·refine ⟨.slice (some ⟨g,0,none⟩) es.length cap,w,[],?_,by simpa [hv] using hown,⟨rfl,rfl,rfl,Nat.le_refl _,fun _ _ _=>rfl⟩,by left; rw [hv],rfl,fun l hl=>by simp at hl,fun l hl=>by simp at hl,fun k e l he=>by simp at he⟩
      rw [hv]
      cases A2 <;> simp [Builtin.append_,run_underlying ht,run_sizeOf hi,Builtin.lenOf,Builtin.firstCells,loadCells,loadCellsFrom,k2,storeCells]
    ·obtain ⟨ad,hA,ls2,y1,y2,y3,y4,y5⟩:=x4 hp
     obtain ⟨v',w',z1,z2,z3,z4,z5⟩:=run_append_own_at (P:=P) w 0 t o.type e i z i.size i.bytes ht hi hz rfl rfl hzs hpos s0 es.length ls.flatten hown ad n2 cap2 ls2.flatten (by rw [flat_len y2,y1,x2]) y5
      (fun u hu=>by obtain ⟨l,hl,hu⟩:=List.mem_flatten.1 hu; exact y3 l hl u hu) (by omega) (by rw [x2]; exact hby) (Nat.zero_le _)
     refine ⟨v',w',ls2,by rw [x1,hA]; exact z1,?_,z3,z5,y1,y2,y3,y4⟩
     rw [List.flatten_append,← x2]
     exact z2
   obtain ⟨v',w',ls2,z1,z2,z3,z4,y1,y2,y3,y4⟩:=hrun
   have z1:(Builtin.append_ #[t,t] o.type #[ρ s,ρ x]).run P w = .ok v' w':=by
    rcases hs0 with hs0 | ⟨⟨A,hA⟩,hs0,hpn⟩
    ·rw [← hs0]; exact z1
    ·rw [← z1,hA,hs0,x1]
     refine append_base0 (e:=e) (i:=i) ht hi A A2 n2 cap2 w hpn ?_
     have:es2.length * i.bytes ≤ (es.length + es2.length) * i.bytes:=Nat.mul_le_mul_right _ (by omega)
     rw [x2]; omega
   have hes' : ∀ e ∈ es ++ es2,e.length = i.size:=fun e he=>by rcases List.mem_append.1 he with he | he; exact hes e he; exact x3 e he
   have hls' : ∀ l ∈ ls ++ ls2,l.length = i.size:=fun l hl=>by rcases List.mem_append.1 hl with hl | hl; exact hls l hl; exact y2 l hl
   have h1' : ∀ l ∈ ls ++ ls2,∀ u ∈ l,u.oneCell' = true:=fun l hl=>by rcases List.mem_append.1 hl with hl | hl; exact h1 l hl; exact y3 l hl
   have hr' : ∀ (k:Nat) (e:List PVal) (l:List Value),(es ++ es2)[k]? = some e → (ls ++ ls2)[k]? = some l → Reps w (okn ok m) D m true e l:=by
    intro k e l he hl
    by_cases hk:k < es.length
    ·rw [List.getElem?_append_left hk] at he
     rw [List.getElem?_append_left (by omega)] at hl
     exact hr k e l he hl
    ·rw [List.getElem?_append_right (by omega)] at he
     rw [List.getElem?_append_right (by omega),hll] at hl
     exact y4 _ e l he hl
   obtain ⟨B1,b1,b2,b3,b4⟩:=row_of_owns (es:=es ++ es2) (ok:=ok) (by rw [List.length_append]; exact z2) hpos hes' hls' (by simp [hll,y1]) h1'
   rw [List.length_append] at b1
   obtain ⟨g1,g2,g3⟩:=hH.reloc (w':=w') id0 nx B1 (.row i.size e (es ++ es2)) z3.os ⟨z3.tape,fun _=>run_drawn z1⟩ z3.output z3.size
    (fun b hb hn=>z3.block b hb fun e=>by
     obtain ⟨i0,t0,h0,hm0⟩:=hblk b e.symm
     exact hn i0 t0 h0 hm0) (.inr hnx)
    (fun b t' e=>by
     have hb:=b2 b t' e
     refine ⟨(z2.lt b hb).2,?_⟩
     rcases z4 with z4 | z4
     ·obtain ⟨i0,t0,h0,hm0⟩:=hblk b (by rw [← z4]; exact hb)
      exact .inr ⟨i0,t0,h0,hm0⟩
     ·rw [hb] at z4
      injection z4 with z4
      exact .inl (by omega))
    (fun hst=>b4 _ _ fun k e l he hl=>(hr' k e l he hl).mono fun p v hr=>hr.step hst (fun _=>.inl) (by
     intro id hd
     by_cases h1:id = nx
     ·subst h1; exact absurd hd hnx
     ·by_cases h2:id0 = some id
      ·right; simp [h1,h2]
      ·left; simp [h1,h2]))
   exact ⟨v',w',exec_append h ha hat z1,B1,g1,g2,b1,b3,g3⟩
  cases p <;> simp only at hc
  case nils =>
   split at hc
   ·rename_i hcond
    obtain ⟨c1,c2,c3⟩:=hcond
    injection hc with hc
    subst hc
    have hv0:=rep_nils hs
    obtain ⟨v,w',r1,B1,r2,r3,r4,r5,r6⟩:=main (ρ s) (.inl rfl) [] [] none rh2 c1 rfl (fun l hl=>by simp at hl) (fun l hl=>by simp at hl) (fun k e l he=>by simp at he) (by rw [hv0]; exact World.ownsRow_nil w 0 e i.size) (fun e he=>by simp at he)
     (fun k hk=>by rw [hv0] at hk; simp [Value.ownBlock] at hk) (by simpa using c2) (by simpa using c3) (fun i0 h0=>by cases h0)
    refine ⟨v,w',(fun i=>D i ∨ i = nx),_,.inl r1,?_,r3,?_,fun id=>by simp,r6⟩
    ·rw [happ_one]
     simpa using r2
    ·refine .own (.inr rfl) r5 fun B hB=>?_
     simp only [if_true,Option.some.injEq] at hB
     subst hB
     simpa using r4
   ·cases hc
  case own id sz1 lo n =>
   cases ho:heap id with
   | none=>simp [ho] at hc
   | some ob =>
    cases ob <;> simp only [ho] at hc
    case row sz1' ty1 es =>
     split at hc
     ·rename_i hcond
      obtain ⟨c1,c2,c3,c4,c5,c6,c7,c8,c9⟩:=hcond
      injection hc with hc
      subst hc
      subst c4 c5 c6
      have c2':=c2
      rw [c2] at hs
      rw [c3] at ho
      have hDid:D id:=by cases hs with | own hd _ _=>exact hd
      have hpre : ∃ (v:Value) (w':World),(execOp ρ o).run P w = .ok (.value v) w' ∧ ∃ B1,SimH (fun i=>D i ∨ i = nx) (fun i=>if i = nx then some B1 else if some id = some i then none else m i) ok (fun j=>if j = nx then some (.row i.size ty1 (es ++ es2)) else if some id = some j then none else heap j) w' ∧
        Step m w (fun i=>if i = nx then some B1 else if some id = some i then none else m i) w' ∧ OwnVal B1 i.size 0 (es.length + es2.length) v ∧ v.oneCell' = true ∧
        (∀ id',D id' → (fun i=>if i = nx then some B1 else if some id = some i then none else m i) id' = m id' ∨ (fun i=>if i = nx then some B1 else if some id = some i then none else m i) id' = none):=by
       by_cases hnil:m id = some .nil
       ·obtain ⟨B,hB,hob⟩:=hH.obj id _ ho
        rw [hnil] at hB
        injection hB with hB
        subst hB
        obtain ⟨he0,hsz0⟩:=hob
        subst he0
        obtain ⟨A,hA⟩ : ∃ A,ρ s = .slice A 0 0:=by cases hs with | own _ _ hp=>exact (hp _ hnil).1
        rcases Nat.eq_zero_or_pos n2 with h0 | hp
        ·have he2:es2 = []:=List.eq_nil_of_length_eq_zero (by omega)
         subst he2
         have hrun:(Builtin.append_ #[t,t] o.type #[ρ s,ρ x]).run P w = .ok (.slice A 0 0) w:=by
          rw [hA,x1,h0]
          cases A <;> cases A2 <;> simp [Builtin.append_,run_underlying ht,run_sizeOf hi,Builtin.lenOf,Builtin.firstCells,loadCells,loadCellsFrom,storeCells]
         obtain ⟨g1,g2,g3⟩:=hH.reloc (w':=w) (some id) nx .nil (.row i.size ty1 []) rfl (Tp.refl w) rfl (Nat.le_refl _) (fun b hb hn=>rfl) (.inr hnx) (fun b t' e=>by cases e) (fun hst=>⟨rfl,hsz0⟩)
         exact ⟨_,w,exec_append h ha hat hrun,.nil,g1,g2,⟨⟨A,rfl⟩,rfl,rfl⟩,rfl,g3⟩
        ·exact main (.slice none 0 0) (.inr ⟨⟨A,hA⟩,rfl,hp⟩) [] [] (some id) rh2 c1 rfl (fun l hl=>by simp at hl) (fun l hl=>by simp at hl) (fun k e l he=>by simp at he) (World.ownsRow_nil w 0 ty1 i.size) (fun e he=>by simp at he)
          (fun k hk=>by simp [Value.ownBlock] at hk) c7 c8 (fun i0 h0=>by injection h0 with h0; subst h0; exact hDid)
       ·obtain ⟨ls,k1,k2,k3,k4,k5,k6,k7,k8⟩:=own_row hH ho hnil hs
        exact main (ρ s) (.inl rfl) es ls (some id) rh2 c1 k1 k2 k3 k4 k5 k6 (fun k hk=>by obtain ⟨t0,ht0⟩:=k8 k hk; exact ⟨id,t0,rfl,ht0⟩) c7 c8 (fun i0 h0=>by injection h0 with h0; subst h0; exact hDid)
      obtain ⟨v,w',r1,B1,r2,r3,r4,r5,r6⟩:=hpre
      refine ⟨v,w',(fun i=>D i ∨ i = nx),_,.inl r1,?_,r3,?_,fun id=>by simp,r6⟩
      ·rw [happ_two]
       exact r2
      ·refine .own (.inr rfl) r5 fun B hB=>?_
       simp only [if_true,Option.some.injEq] at hB
       subst hB
       exact r4
     ·cases hc
    case full sz1' ty1 es =>
     obtain ⟨A2',n2',cap2',x1',x2',x4'⟩:=elems_are hH hx hel
     exact coreAppF_sound h ha hat ht hi hz hpos hzs hH hnx hs ho x1' x2' x4' hc
    all_goals cases hc
  all_goals cases hc
end
end Go.Proofs.YtakallenldpkiaaGreatDoor.Abs
