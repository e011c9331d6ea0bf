/- Rows of which every cell of the block is told (what is not known is undef): what cap, copy, clear, append and append of make do to them. Generic over any program. -/
import Derived.Lib.AppendZerosOnto
import Derived.Test.YtakallenldpkiaaGreatDoorA8
set_option linter.unusedVariables false
set_option linter.unusedSimpArgs false
set_option linter.unusedSectionVars false
namespace Go.Proofs.YtakallenldpkiaaGreatDoor.Abs
open Go
variable [DqC]
section
variable {P:Program} {o:Oper} {ρ:Operand → Value} {D:AId → Prop} {m:AId → Option Blk} {ok:Nat → Prop} {heap:AId → Option AObj} {w:World} {nx:AId} {r:R}
theorem SimH.weakObj (hH:SimH D m ok heap w) {id:AId} {ob o':AObj} (ho:heap id = some ob) (h : ∀ B,m id = some B → RepObj w ok D m ob B → RepObj w ok D m o' B) :
  SimH D m ok (fun j=>if j = id then some o' else heap j) w :=
 ⟨fun j ob' hj=>by
  by_cases e:j = id
  ·subst e
   rw [if_pos rfl] at hj
   injection hj with hj
   subst hj
   obtain ⟨B,hB,hob⟩:=hH.obj _ _ ho
   exact ⟨B,hB,h B hB hob⟩
  ·rw [if_neg e] at hj
   exact hH.obj _ _ hj,hH.dom,hH.inj,hH.lt,hH.okm,hH.fresh,hH.glob⟩
theorem knownL_get {es:List (List PVal)} (h:knownL es = true) {i j:Nat} {e:List PVal} {p:PVal} (he:es[i]? = some e) (hp:e[j]? = some p):p ≠ .undef:=by
 rintro rfl
 simp only [knownL,List.all_eq_true] at h
 have:=h e (List.mem_of_getElem? he) _ (List.mem_of_getElem? hp)
 simp [PVal.isU] at this
theorem full_known {sz ty q:Nat} {es:List (List PVal)} {B:Blk} (hk:knownL (es.take q) = true) (h:RepObj w ok D m (.full sz ty es) B):RepObj w ok D m (.row sz ty (es.take q)) B:=by
 cases B with
 | nil=>obtain ⟨rfl,h2⟩:=h; exact ⟨by simp,h2⟩
 | «at» b tot =>
  obtain ⟨vs,h1,h2,h3,h4,h5,h6,h7⟩:=h
  refine ⟨vs,h1,h2,by simp; omega,h4,h5,fun e he=>h6 e (List.mem_of_mem_take he),fun i j e p he hp=>?_⟩
  rcases h7 i j e p (get_of_take he) hp with h | h
  ·exact absurd h (knownL_get hk he hp)
  ·exact h
theorem row_full {sz ty:Nat} {es:List (List PVal)} {B:Blk} (h:RepObj w ok D m (.row sz ty es) B) : ∃ k,RepObj w ok D m (.full sz ty (es ++ List.replicate k (List.replicate sz .undef))) B:=by
 cases B with
 | nil=>obtain ⟨rfl,h2⟩:=h; exact ⟨0,by simp,h2⟩
 | «at» b tot =>
  obtain ⟨vs,h1,h2,h3,h4,h5,h6,h7⟩:=h
  refine ⟨tot - es.length,vs,h1,h2,by simp; omega,h4,h5,fun e he=>?_,fun i j e p he hp=>?_⟩
  ·rcases List.mem_append.1 he with he | he
   ·exact h6 e he
   ·rw [List.eq_of_mem_replicate he]; simp
  ·by_cases hi:i < es.length
   ·rw [List.getElem?_append_left hi] at he
    exact .inr (h7 i j e p he hp)
   ·rw [List.getElem?_append_right (by omega)] at he
    left
    rw [List.eq_of_mem_replicate (List.mem_of_getElem? he)] at hp
    exact List.eq_of_mem_replicate (List.mem_of_getElem? hp)
def ElemsAre (w:World) (ok:Nat → Prop) (D:AId → Prop) (m:AId → Option Blk) (sz:Nat) (es:List (List PVal)) (A:Option Addr):Prop :=
 (∀ e ∈ es,e.length = sz) ∧ (0 < es.length → ∃ ad,A = some ad ∧ ∃ ls:List (List Value),ls.length = es.length ∧ (∀ l ∈ ls,l.length = sz) ∧ (∀ l ∈ ls,∀ u ∈ l,u.oneCell' = true) ∧
  (∀ (i:Nat) (e:List PVal) (l:List Value),es[i]? = some e → ls[i]? = some l → Reps w (okn ok m) D m true e l) ∧ ∀ (j:Nat) (u:Value),ls.flatten[j]? = some u → w.cell? (ad.add j) = some u)
theorem ElemsAre.take {sz:Nat} {es:List (List PVal)} {A:Option Addr} (h:ElemsAre w ok D m sz es A) (k:Nat):ElemsAre w ok D m sz (es.take k) A:=by
 refine ⟨fun e he=>h.1 e (List.mem_of_mem_take he),fun hpos=>?_⟩
 obtain ⟨ad,hA,ls,h1,h2,h3,h4,h5⟩:=h.2 (by simp at hpos; omega)
 refine ⟨ad,hA,ls.take k,by simp [h1],fun l hl=>h2 l (List.mem_of_mem_take hl),fun l hl=>h3 l (List.mem_of_mem_take hl),fun i e l he hl=>h4 i e l (get_of_take he) (get_of_take hl),fun j u hu=>h5 j u ?_⟩
 have:ls.flatten = (ls.take k).flatten ++ (ls.drop k).flatten:=by rw [← List.flatten_append,List.take_append_drop]
 rw [this,List.getElem?_append_left (List.getElem?_eq_some_iff.1 hu).1]
 exact hu
theorem elems_are (hH:SimH D m ok heap w) {p:PVal} {v:Value} {sz:Nat} {es:List (List PVal)} {rh:List AId} (hp:Rep w (okn ok m) D m false p v) (he:elems heap p = some (sz,es,rh)) :
  ∃ A n cap,v = .slice A n cap ∧ n = es.length ∧ ElemsAre w ok D m sz es A:=by
 obtain ⟨A,n,cap,h1,h2,h3,h4⟩:=elems_rep hH hp he
 exact ⟨A,n,cap,h1,h2,h3,fun h=>h4 (by omega)⟩
theorem elemsU_are (hH:SimH D m ok heap w) {p:PVal} {v:Value} {sz k:Nat} {es:List (List PVal)} {rh:List AId} (hp:Rep w (okn ok m) D m false p v) (he:elemsU heap k p = some (sz,es,rh)) :
  ∃ A n cap,v = .slice A n cap ∧ n = lenP p ∧ es.length = min k n ∧ ElemsAre w ok D m sz es A:=by
 cases p <;> simp only [elemsU] at he
 case ro sz' es' =>
  simp only [Option.some.injEq,Prod.mk.injEq] at he
  obtain ⟨rfl,rfl,rfl⟩:=he
  obtain ⟨A,n,cap,h1,h2,h3⟩:=elems_are hH hp (by simp only [elems]; rfl)
  exact ⟨A,n,cap,h1,by simp [lenP,h2],by simp [h2],h3.take k⟩
 case own id sz' lo n =>
  cases ho:heap id with
  | none=>simp [ho] at he
  | some ob =>
   cases ob <;> simp only [ho] at he
   case row sz'' ty es' =>
    split at he
    ·rename_i hc
     simp only [Option.some.injEq,Prod.mk.injEq] at he
     obtain ⟨rfl,rfl,rfl⟩:=he
     obtain ⟨A,n',cap,h1,h2,h3⟩:=elems_are (es:=(es'.drop lo).take n) (sz:=sz') (rh:=[id]) hH hp (by simp only [elems,ho]; rw [if_pos hc])
     have hl:((es'.drop lo).take n).length = n:=by simp; omega
     exact ⟨A,n',cap,h1,by simp only [lenP]; omega,by rw [List.length_take,hl]; omega,h3.take k⟩
    ·cases he
   case full sz'' ty es' =>
    split at he
    ·rename_i hc
     obtain ⟨c1,c2,c3⟩:=hc
     subst c1
     simp only [Option.some.injEq,Prod.mk.injEq] at he
     obtain ⟨rfl,rfl,rfl⟩:=he
     obtain ⟨B,hB,hob⟩:=hH.obj id _ ho
     cases hp with
     | own hd h1 hp =>
      have hv : ∃ A cap,v = .slice A n cap ∧ n ≤ cap:=by
       have:=hp B hB
       cases B with
       | nil=>obtain ⟨⟨A,e⟩,_,e3⟩:=this; exact ⟨A,0,by rw [e,e3],by omega⟩
       | «at» b t=>obtain ⟨a,cap,e,_,_,_,e3,_⟩:=this; exact ⟨some a,cap,e,e3⟩
      obtain ⟨A,cap,rfl,hnc⟩:=hv
      have hH':=hH.weakObj ho (o':=.row sz'' ty (es'.take (lo + min k n))) (fun B _ hob=>full_known c3 hob)
      have hp':Rep w (okn ok m) D m false (.own id sz'' lo (min k n)) (.slice A (min k n) cap):=by
       refine .own hd rfl fun B' hB'=>?_
       have:=hp B' hB'
       cases B' with
       | nil=>obtain ⟨⟨A',e⟩,e2,e3⟩:=this; injection e with e4 e5 e6; subst e6; exact ⟨⟨A,by congr 1; omega⟩,e2,by omega⟩
       | «at» b t =>
        obtain ⟨a,cap',e,g1,g2,g3,g4,g5⟩:=this
        injection e with e1 e2 e3
        subst e1 e3
        exact ⟨a,cap,rfl,g1,g2,g3,by omega,g5⟩
      have hl:((es'.drop lo).take n).take k = ((es'.take (lo + min k n)).drop lo).take (min k n):=by
       rw [List.take_take,List.drop_take,List.take_take]
       congr 1
       omega
      obtain ⟨A',n',cap',h1',h2',h3'⟩:=elems_are (es:=((es'.take (lo + min k n)).drop lo).take (min k n)) (sz:=sz'') (rh:=[id]) hH' hp' (by
       simp only [elems,if_true]
       rw [if_pos ⟨trivial,by simp; omega⟩])
      injection h1' with e1 e2 e3
      subst e1
      rw [hl]
      refine ⟨A,n,cap,rfl,rfl,?_,h3'⟩
      rw [← h2',← e2]
    ·cases he
   all_goals cases he
 all_goals cases he
theorem overE_length {es es2:List (List PVal)} {lo:Nat} (h:lo + es2.length ≤ es.length):(overE es lo es2).length = es.length:=by
 simp [overE]; omega
theorem overE_get {es es2:List (List PVal)} {lo:Nat} (h:lo + es2.length ≤ es.length) (i:Nat):(overE es lo es2)[i]? = if lo ≤ i ∧ i < lo + es2.length then es2[i - lo]? else es[i]?:=by
 unfold overE
 by_cases h1:i < lo
 ·rw [if_neg (by omega),List.append_assoc,List.getElem?_append_left (by simp; omega),List.getElem?_take,if_pos h1]
 ·by_cases h2:i < lo + es2.length
  ·rw [if_pos ⟨by omega,h2⟩,List.append_assoc,List.getElem?_append_right (by simp; omega),List.getElem?_append_left (by simp; omega)]
   congr 1
   simp
   omega
  ·rw [if_neg (by omega),List.getElem?_append_right (by simp; omega),List.getElem?_drop]
   congr 1
   simp
   omega
theorem full_over {w':World} {D':AId → Prop} {m':AId → Option Blk} {sz ty lo b tot:Nat} {es es2:List (List PVal)} {ls:List (List Value)} {vs vs':Array Value} (hob:RepObj w ok D m (.full sz ty es) (.at b tot))
  (hb:w.heap[b]? = some (.cells vs ty (0,0))) (hb':w'.heap[b]? = some (.cells vs' ty (0,0))) (hs:vs'.size = vs.size)
  (hat : ∀ j,vs'.toList[j]? = if lo * sz ≤ j ∧ j < lo * sz + ls.flatten.length then ls.flatten[j - lo * sz]? else vs.toList[j]?)
  (hll:ls.length = es2.length) (hls : ∀ l ∈ ls,l.length = sz) (h1 : ∀ l ∈ ls,∀ u ∈ l,u.oneCell' = true) (hes2 : ∀ e ∈ es2,e.length = sz)
  (hr : ∀ (k:Nat) (e:List PVal) (l:List Value),es2[k]? = some e → ls[k]? = some l → Reps w (okn ok m) D m true e l) (hfit:lo + es2.length ≤ es.length)
  (hst : ∀ p v,Rep w (okn ok m) D m true p v → Rep w' (okn ok m') D' m' true p v):RepObj w' ok D' m' (.full sz ty (overE es lo es2)) (.at b tot):=by
 obtain ⟨vs0,g1,g2,g3,g4,g5,g6,g7⟩:=hob
 rw [hb] at g1
 injection g1 with g1
 injection g1 with g1
 subst g1
 have hfl:=flat_len hls
 rw [hll] at hfl
 refine ⟨vs',hb',by rw [hs,g2],by rw [overE_length hfit,g3],g4,g5,fun e he=>?_,fun i j e p he hp=>?_⟩
 ·simp only [overE,List.mem_append] at he
  rcases he with (he | he) | he
  ·exact g6 e (List.mem_of_mem_take he)
  ·exact hes2 e he
  ·exact g6 e (List.mem_of_mem_drop he)
 ·rw [overE_get hfit] at he
  have hatj:=hat (i * sz + j)
  rw [hfl] at hatj
  by_cases hin:lo ≤ i ∧ i < lo + es2.length
  ·rw [if_pos hin] at he
   right
   have hj:j < sz:=by rw [← hes2 e (List.mem_of_getElem? he)]; exact (List.getElem?_eq_some_iff.1 hp).1
   have e1:i * sz = lo * sz + (i - lo) * sz:=by rw [← Nat.add_mul]; congr 1; omega
   have e2:(i - lo + 1) * sz ≤ es2.length * sz:=Nat.mul_le_mul_right _ (by omega)
   rw [Nat.succ_mul] at e2
   rw [if_pos (by omega)] at hatj
   have hil:i - lo < ls.length:=by omega
   have hg:=flat_get hls (List.getElem?_eq_getElem hil) hj
   rw [show i * sz + j - lo * sz = (i - lo) * sz + j by omega,hg] at hatj
   have hlen:=hls _ (List.getElem_mem hil)
   have hjl:j < ls[i - lo].length:=by rw [hlen]; exact hj
   rw [List.getElem?_eq_getElem hjl] at hatj
   exact ⟨ls[i - lo][j],by rw [← Array.getElem?_toList]; exact hatj,h1 _ (List.getElem_mem hil) _ (List.getElem_mem hjl),hst _ _ ((hr _ e _ he (List.getElem?_eq_getElem hil)).2 j p _ hp (List.getElem?_eq_getElem hjl))⟩
  ·rw [if_neg hin] at he
   have hj:j < sz:=by rw [← g6 e (List.mem_of_getElem? he)]; exact (List.getElem?_eq_some_iff.1 hp).1
   have hne : ¬ (lo * sz ≤ i * sz + j ∧ i * sz + j < lo * sz + es2.length * sz):=by
    rintro ⟨q1,q2⟩
    rcases Nat.lt_or_ge i lo with hlt | hge
    ·have:=Nat.mul_le_mul_right sz (show i + 1 ≤ lo from hlt)
     rw [Nat.succ_mul] at this
     omega
    ·have:=Nat.mul_le_mul_right sz (show lo + es2.length ≤ i by omega)
     rw [Nat.add_mul] at this
     omega
   rw [if_neg hne] at hatj
   rcases g7 i j e p he hp with h | ⟨u,k1,k2,k3⟩
   ·exact .inl h
   ·exact .inr ⟨u,by rw [← Array.getElem?_toList,hatj,Array.getElem?_toList]; exact k1,k2,hst _ _ k3⟩
theorem Out.wrote (hH:SimH D m ok heap w) {id:AId} {b tot:Nat} (hB:m id = some (.at b tot)) (obj:AObj) (rh:List AId) {w':World} {v:Value} {p:PVal} (hr:(execOp ρ o).run P w = .ok (.value v) w')
  (hos:w'.os = w.os) (ht:w'.tape = w.tape) (hou:w'.output = w.output) (hsz:w'.heap.size = w.heap.size) (hk : ∀ k,k ≠ b → w'.heap[k]? = w.heap[k]?)
  (hobj:Step m w m w' → RepObj w' ok D m obj (.at b tot)) (hp:Rep w' (okn ok m) D m false p v) :
  Out P o ρ D m ok heap w { v:=p,rh,wh:=[(id,some obj)] }:=by
 have hm':(fun i=>if i = id then some (Blk.at b tot) else if some id = some i then none else m i) = m:=by
  funext i
  by_cases e:i = id
  ·subst e; simp [hB]
  ·have : ¬ id = i:=fun e'=>e e'.symm
   simp [e,this]
 have hD':(fun i=>D i ∨ i = id) = D:=by
  funext i
  have:i = id → D i:=fun e=>by subst e; exact hH.dom _ _ hB
  exact propext ⟨fun h=>h.elim (fun h=>h) this,.inl⟩
 obtain ⟨h1,h2,h3⟩:=hH.reloc (w':=w') (some id) id (.at b tot) obj hos ⟨ht,fun _=>run_drawn hr⟩ hou (by omega)
  (fun k hk' hn=>hk k (fun e=>hn id tot rfl (by rw [e]; exact hB))) (.inl ⟨rfl,hB⟩)
  (fun b' t' e=>by injection e with e1 e2; subst e1; exact ⟨by rw [hsz]; exact hH.lt _ _ _ hB,.inr ⟨id,tot,rfl,hB⟩⟩)
  (fun hst=>by rw [hm'] at hst ⊢; rw [hD']; exact hobj hst)
 rw [hm'] at h1 h2
 rw [hD'] at h1
 refine ⟨v,w',D,m,.inl hr,?_,h2,hp,fun i=>by simp,fun _ _=>.inl rfl⟩
 rw [happ_one]
 have:(fun i=>if i = id then some obj else heap i) = (fun i=>if i = id then some obj else if some id = some i then none else heap i):=by
  funext i
  by_cases e:i = id
  ·simp [e]
  ·have : ¬ id = i:=fun e'=>e e'.symm
   simp [e,this]
 rw [this]
 exact h1
theorem Out.moved (hH:SimH D m ok heap w) (hnx : ¬ D nx) {id:AId} {b tot sz k:Nat} (hB:m id = some (.at b tot)) (obj:AObj) (rh:List AId) {w':World} {v:Value} (hr:(execOp ρ o).run P w = .ok (.value v) w')
  (hos:w'.os = w.os) (ht:w'.tape = w.tape) (hou:w'.output = w.output) (hsz:w'.heap.size = w.heap.size) (hk : ∀ k,k ≠ b → w'.heap[k]? = w.heap[k]?)
  (hobj : ∀ (m':AId → Option Blk) (D':AId → Prop),(∀ p v,Rep w (okn ok m) D m true p v → Rep w' (okn ok m') D' m' true p v) → RepObj w' ok D' m' obj (.at b tot)) (hv:OwnVal (.at b tot) sz 0 k v) (h1v:v.oneCell' = true) :
  Out P o ρ D m ok heap w { v:=.own nx sz 0 k,rh,wh:=[(nx,some obj),(id,none)],nw:=[nx] }:=by
 obtain ⟨h1,h2,h3⟩:=hH.reloc (w':=w') (some id) nx (.at b tot) obj hos ⟨ht,fun _=>run_drawn hr⟩ hou (by omega)
  (fun k hk' hn=>hk k (fun e=>hn id tot rfl (by rw [e]; exact hB))) (.inr hnx)
  (fun b' t' e=>by injection e with e1 e2; subst e1; exact ⟨by rw [hsz]; exact hH.lt _ _ _ hB,.inr ⟨id,tot,rfl,hB⟩⟩)
  (fun hst=>hobj _ _ fun p v hrp=>hrp.step hst (fun _=>.inl) (by
   intro j hd
   by_cases e1:j = nx
   ·subst e1; exact absurd hd hnx
   ·by_cases e2:some id = some j
    ·right; simp [e1,e2]
    ·left; simp [e1,e2]))
 refine ⟨v,w',(fun i=>D i ∨ i = nx),_,.inl hr,?_,h2,.own (.inr rfl) h1v fun B' hB'=>?_,fun i=>by simp,h3⟩
 ·rw [happ_two]; exact h1
 ·simp only [if_true,Option.some.injEq] at hB'
  subst hB'
  exact hv
theorem Out.newD (hH:SimH D m ok heap w) (hnx : ¬ D nx) {sz ty n cap:Nat} {es:List (List PVal)} {ls:List (List Value)} {vs:Array Value} (rh:List AId)
  (hr:(execOp ρ o).run P w = .ok (.value (.slice (some ⟨w.heap.size,0,none⟩) n cap)) (w.drew.alloc (.cells vs ty))) (hn:n = es.length) (hcap:n ≤ cap) (hmax:cap ≤ maxLen) (hvs:vs.size = cap * sz) (hpre:ls.flatten <+: vs.toList) (hsz:0 < sz)
  (hes : ∀ e ∈ es,e.length = sz) (hls : ∀ l ∈ ls,l.length = sz) (hll:ls.length = es.length) (h1 : ∀ l ∈ ls,∀ u ∈ l,u.oneCell' = true)
  (hrep : ∀ (k:Nat) (e:List PVal) (l:List Value),es[k]? = some e → ls[k]? = some l → Reps w (okn ok m) D m true e l) :
  Out P o ρ D m ok heap w { v:=.own nx sz 0 n,rh,wh:=[(nx,some (.row sz ty es))],nw:=[nx] }:=by
 obtain ⟨g1,g2,g3⟩:=hH.reloc (w':=w.drew.alloc (.cells vs ty)) none nx (.at w.heap.size cap) (.row sz ty es) rfl ⟨rfl,fun _=>Nat.le_succ _⟩ rfl (by simp) (fun b hb _=>heap_alloc_old w.drew _ hb) (.inr hnx)
  (fun b t e=>by injection e with e _; subst e; exact ⟨by simp,.inl (Nat.le_refl _)⟩)
  (fun hst=>row_new (heap_alloc_new w.drew _) hvs hpre (by omega) hmax hsz hes hls hll h1 fun k e l he hl=>(hrep k e l he hl).mono fun p v hrp=>hrp.step hst (fun _=>.inl) (by
   intro j hd
   by_cases e1:j = nx
   ·subst e1; exact absurd hd hnx
   ·left; simp [e1]))
 refine ⟨_,_,(fun i=>D i ∨ i = nx),_,.inl hr,?_,g2,.own (.inr rfl) rfl fun B' hB'=>?_,fun i=>by simp,g3⟩
 ·rw [happ_one]; simpa using g1
 ·simp only [if_true,Option.some.injEq] at hB'
  subst hB'
  exact ⟨⟨w.heap.size,0,none⟩,cap,rfl,rfl,rfl,.inl (by simp),hcap,by omega,hmax⟩
theorem own_addr {b tot sz lo n:Nat} {v:Value} (h:OwnVal (.at b tot) sz lo n v) (hr:0 < n ∨ lo = 0) : ∃ cap,v = .slice (some ⟨b,lo * sz,none⟩) n cap ∧ n ≤ cap ∧ lo + cap = tot ∧ tot ≤ maxLen:=by
 obtain ⟨a,cap,rfl,h1,h2,h3,h4,h5,h6⟩:=h
 obtain ⟨ab,ao,as⟩:=a
 simp only at h1 h2 h3
 subst h1 h2
 refine ⟨cap,?_,h4,h5,h6⟩
 rcases h3 with h3 | ⟨h3,h3'⟩
 ·rw [h3]
 ·omega
theorem exec_builtin2 {bi:Builtin} {args:Array Operand} {ats:Array TypeId} {s x:Operand} {t t':TypeId} (h:o.op = .call { callee:=.builtin bi,args,argTypes:=ats }) (ha:args.toList = [s,x]) (hat:ats.toList = [t,t']) :
  o.op = .call { callee:=.builtin bi,args:=#[s,x],argTypes:=#[t,t'] }:=by
 have ha':args = #[s,x]:=by rw [← Array.toArray_toList (xs:=args),ha]
 have hat':ats = #[t,t']:=by rw [← Array.toArray_toList (xs:=ats),hat]
 rw [h,ha',hat']
theorem core_capL {args:Array Operand} {ats:Array TypeId} {x:Operand} {t e:TypeId} {p:PVal} (h:o.op = .call { callee:=.builtin .cap,args,argTypes:=ats }) (ha:args.toList = [x]) (hat:ats.toList = [t]) (hd:P.underlying t = some (.slice e))
  (hH:SimH D m ok heap w) (hx:Rep w (okn ok m) D m false p (ρ x)) (hc:core .capL [p] heap nx = some r):Out P o ρ D m ok heap w r:=by
 have ha':args = #[x]:=by rw [← Array.toArray_toList (xs:=args),ha]
 have hat':ats = #[t]:=by rw [← Array.toArray_toList (xs:=ats),hat]
 have key : ∀ a n c,ρ x = .slice a n c → (execOp ρ o).run P w = .ok (.value (.int .i64 c)) w:=by
  intro a n c e
  unfold execOp
  simp only [h,ha',hat']
  simp [resolve,invoke,builtin,e,Builtin.cap_,run_underlying hd,goInt]
 cases p <;> simp only [core] at hc <;> try (cases hc; done)
 case nils =>
  injection hc with hc
  subst hc
  exact Out.pure hH _ (key _ _ _ (rep_nils hx)) .int
 case own id sz lo n =>
  cases ho:heap id with
  | none=>simp [ho] at hc
  | some ob =>
   cases ob <;> simp only [ho] at hc <;> try (cases hc; done)
   case full sz' ty es =>
    split at hc
    ·rename_i hle
     injection hc with hc
     subst hc
     obtain ⟨B,hB,hob⟩:=hH.obj id _ ho
     cases hx with
     | own hd' _ hp =>
      have hv:=hp B hB
      cases B with
      | nil =>
       obtain ⟨⟨A0,e1⟩,e2,e3⟩:=hv
       obtain ⟨rfl,_⟩:=hob
       have:=Out.pure (P:=P) (o:=o) (ρ:=ρ) hH [id] (key _ _ _ e1) (p:=.int .i64 (0:Nat)) .int
       simpa using this
      | «at» b tt =>
       obtain ⟨a,cap,e1,_,_,_,_,e2,_⟩:=hv
       obtain ⟨vs,g1,g2,g3,_⟩:=hob
       have:es.length - lo = cap:=by omega
       rw [this]
       exact Out.pure hH _ (key _ _ _ e1) .int
    ·cases hc
theorem core_copy {args:Array Operand} {ats:Array TypeId} {d s:Operand} {t t' e:TypeId} {i:TypeInfo} {p q:PVal} (h:o.op = .call { callee:=.builtin .copy,args,argTypes:=ats }) (ha:args.toList = [d,s]) (hat:ats.toList = [t,t'])
  (ht:P.underlying t = some (.slice e)) (hi:P.info? e = some i) (hH:SimH D m ok heap w) (hd:Rep w (okn ok m) D m false p (ρ d)) (hx:Rep w (okn ok m) D m false q (ρ s)) (hc:core (.copy i.size) [p,q] heap nx = some r) (hf : ∃ id sz1 lo n sz' ty es,p = .own id sz1 lo n ∧ heap id = some (.full sz' ty es)):Out P o ρ D m ok heap w r:=by
 have hop:=exec_builtin2 h ha hat
 cases p <;> simp only [core] at hc <;> try (cases hc; done)
 case own id sz1 lo n =>
  cases ho:heap id with
  | none=>simp [ho] at hc
  | some ob =>
   cases ob <;> simp only [ho] at hc <;> try (cases hc; done)
   case row sz' ty es=>obtain ⟨_,_,_,_,_,_,_,h1,h2⟩:=hf; injection h1 with h1 _ _ _; subst h1; rw [ho] at h2; cases h2
   case full sz' ty es =>
    cases hel:elemsU heap n q with
    | none=>simp [hel] at hc
    | some y =>
     obtain ⟨sz2,es2,rh2⟩:=y
     simp only [hel] at hc
     split at hc
     ·rename_i hcond
      obtain ⟨c1,c2,c3,c4,c5⟩:=hcond
      subst c1 c2 c3
      injection hc with hc
      subst hc
      obtain ⟨A2,n2,cap2,x1,x2,x3,x4⟩:=elemsU_are hH hx hel
      obtain ⟨B,hB,hob⟩:=hH.obj id _ ho
      cases hd with
      | own hd' _ hp =>
       have hv:=hp B hB
       cases B with
       | nil=>obtain ⟨_,_,e3⟩:=hv; omega
       | «at» b tot =>
        obtain ⟨cap,e1,e2,e3,e4⟩:=own_addr hv (.inl c5)
        have hob':=hob
        obtain ⟨vs,g1,g2,g3,g4,g5,g6,g7⟩:=hob
        have hmin:Nat.min n2 n = es2.length:=by rw [x3]; exact Nat.min_comm _ _
        obtain ⟨ls,y1,y2,y3,y4,y5⟩ : ∃ ls:List (List Value),ls.length = es2.length ∧ (∀ l ∈ ls,l.length = i.size) ∧ (∀ l ∈ ls,∀ u ∈ l,u.oneCell' = true) ∧
          (∀ (k:Nat) (e:List PVal) (l:List Value),es2[k]? = some e → ls[k]? = some l → Reps w (okn ok m) D m true e l) ∧
          (Builtin.firstCells i.size es2.length (ρ s)).run P w = .ok ls.flatten.toArray w:=by
         rcases Nat.eq_zero_or_pos es2.length with h0 | hpos
         ·have he2:es2 = []:=List.eq_nil_of_length_eq_zero h0
          subst he2
          refine ⟨[],rfl,fun l hl=>by simp at hl,fun l hl=>by simp at hl,fun k e l he=>by simp at he,?_⟩
          rw [x1]
          cases A2 <;> simp [Builtin.firstCells,loadCells,loadCellsFrom]
         ·obtain ⟨ad,hA,ls,y1,y2,y3,y4,y5⟩:=x4.2 hpos
          refine ⟨ls,y1,y2,y3,y4,?_⟩
          have:=run_loadCells_list (P:=P) w ad ls.flatten y5
          rw [flat_len y2,y1] at this
          rw [x1,hA]
          simpa [Builtin.firstCells] using this
        have hfl:=flat_len y2
        rw [y1] at hfl
        have hle:lo * i.size + es2.length * i.size ≤ vs.size:=by
         rw [g2,← Nat.add_mul]
         exact Nat.mul_le_mul_right _ (by omega)
        obtain ⟨w',vs',r1,r2,r3,r4,r5,r6,r7,r8,r9⟩:=setCells_spec (P:=P) ls.flatten w b (lo * i.size) vs ty 0 g1 (by rw [hfl]; omega) (fun u hu=>by obtain ⟨l,hl,hu⟩:=List.mem_flatten.1 hu; exact y3 l hl u hu)
        have hrun:(execOp ρ o).run P w = .ok (.value (.int .i64 es2.length)) w':=by
         unfold execOp
         simp only [hop]
         rw [x1] at y5
         have hx1:=x1
         simp [resolve,invoke,builtin,Builtin.copy_,run_underlying ht,e1,x1,Builtin.lenOf,run_sizeOf hi,hmin,y5,r1,goInt]
        exact Out.wrote hH hB _ _ hrun r5 r6 r7 r8 r9 (fun hst=>full_over hob' g1 r2 r3 (by simpa using r4) y1 y2 y3 x4.1 y4 (by omega) (fun p v hrp=>hrp.step hst (fun _ hd=>hd) (fun _ _=>.inl rfl))) .int
     ·cases hc
theorem replicate_reps {c:Bool} {zs:List PVal} {l:List Value} (h:Reps w ok D m c zs l) {n k:Nat} {e:List PVal} {l':List Value} (he:(List.replicate n zs)[k]? = some e) (hl:(List.replicate n l)[k]? = some l'):Reps w ok D m c e l':=by
 rw [List.eq_of_mem_replicate (List.mem_of_getElem? he),List.eq_of_mem_replicate (List.mem_of_getElem? hl)]
 exact h
theorem zeroCells_flat (zc:Array Value) (n:Nat):(Builtin.zeroCells zc n).toList = (List.replicate n zc.toList).flatten:=by
 rcases Nat.eq_zero_or_pos zc.size with h0 | hpos
 ·have:zc = #[]:=Array.eq_empty_of_size_eq_zero h0
  subst this
  simp [Builtin.zeroCells]
 ·apply List.ext_getElem?
  intro j
  have hls : ∀ l ∈ List.replicate n zc.toList,l.length = zc.size:=fun l hl=>by rw [List.eq_of_mem_replicate hl]; simp
  by_cases hj:j < n * zc.size
  ·have hdiv:j / zc.size < n:=(Nat.div_lt_iff_lt_mul hpos).2 hj
   have hg:=flat_get hls (i:=j / zc.size) (j:=j % zc.size) (l:=zc.toList) (by simp [hdiv]) (Nat.mod_lt _ hpos)
   rw [Nat.div_add_mod'] at hg
   rw [hg]
   have hm:j % zc.size < zc.size:=Nat.mod_lt _ hpos
   simp [Builtin.zeroCells,hj,hm]
  ·rw [List.getElem?_eq_none (by simp [Builtin.zeroCells]; omega),List.getElem?_eq_none (by rw [flat_len hls]; simp; omega)]
theorem core_clear {args:Array Operand} {ats:Array TypeId} {x:Operand} {t e:TypeId} {i:TypeInfo} {z:Value} {zs zs':List PVal} {p:PVal} (h:o.op = .call { callee:=.builtin .clear,args,argTypes:=ats }) (ha:args.toList = [x]) (hat:ats.toList = [t])
  (ht:P.underlying t = some (.slice e)) (hi:P.info? e = some i) (hz:i.zero = some z) (hzz:z.cells.size = i.size) (hzs:zeroC z = some zs) (hH:SimH D m ok heap w) (hx:Rep w (okn ok m) D m false p (ρ x)) (hc:core (.clear i.size zs') [p] heap nx = some r) (hw':Reps w (okn ok m) D m true zs' z.cells.toList) (hf : ∃ id sz1 lo n sz' ty es,p = .own id sz1 lo n ∧ heap id = some (.full sz' ty es)):Out P o ρ D m ok heap w r:=by
 have ha':args = #[x]:=by rw [← Array.toArray_toList (xs:=args),ha]
 have hat':ats = #[t]:=by rw [← Array.toArray_toList (xs:=ats),hat]
 cases p <;> simp only [core] at hc <;> try (cases hc; done)
 case own id sz1 lo n =>
  cases ho:heap id with
  | none=>simp [ho] at hc
  | some ob =>
   cases ob <;> simp only [ho] at hc <;> try (cases hc; done)
   case row sz' ty es=>obtain ⟨_,_,_,_,_,_,_,h1,h2⟩:=hf; injection h1 with h1 _ _ _; subst h1; rw [ho] at h2; cases h2
   case full sz' ty es =>
    split at hc
    ·rename_i hcond
     obtain ⟨c1,c2,c3,c4⟩:=hcond
     subst c1 c2
     injection hc with hc
     subst hc
     obtain ⟨B,hB,hob⟩:=hH.obj id _ ho
     cases hx with
     | own hd' _ hp =>
      have hv:=hp B hB
      cases B with
      | nil=>obtain ⟨_,_,e3⟩:=hv; omega
      | «at» b tot =>
       obtain ⟨cap,e1,e2,e3,e4⟩:=own_addr hv (.inl c4)
       have hob':=hob
       obtain ⟨vs,g1,g2,g3,g4,g5,g6,g7⟩:=hob
       obtain ⟨hz1,hz2⟩:=zeroC_rep (w:=w) (ok:=okn ok m) (D:=D) (m:=m) (c:=true) hzs
       have hls : ∀ l ∈ List.replicate n z.cells.toList,l.length = i.size:=fun l hl=>by rw [List.eq_of_mem_replicate hl]; simpa using hzz
       have h1 : ∀ l ∈ List.replicate n z.cells.toList,∀ u ∈ l,u.oneCell' = true:=fun l hl u hu=>by rw [List.eq_of_mem_replicate hl] at hu; exact hz2 u hu
       have hzl:zs'.length = i.size:=by rw [hw'.1]; simpa using hzz
       have hfl:=flat_len hls
       simp only [List.length_replicate] at hfl
       have hle:lo * i.size + n * i.size ≤ vs.size:=by
        rw [g2,← Nat.add_mul]
        exact Nat.mul_le_mul_right _ (by omega)
       obtain ⟨w',vs',r1,r2,r3,r4,r5,r6,r7,r8,r9⟩:=setCells_spec (P:=P) (List.replicate n z.cells.toList).flatten w b (lo * i.size) vs ty 0 g1 (by rw [hfl]; omega) (fun u hu=>by obtain ⟨l,hl,hu⟩:=List.mem_flatten.1 hu; exact h1 l hl u hu)
       have hrun:(execOp ρ o).run P w = .ok (.value (.tuple #[])) w':=by
        rw [← zeroCells_flat] at r1
        unfold execOp
        simp only [h,ha',hat']
        obtain ⟨n',rfl⟩ : ∃ n',n = n' + 1:=⟨n - 1,by omega⟩
        simp [resolve,invoke,builtin,Builtin.clear_,run_underlying ht,e1,zeroValue,typeInfo,hi,hz,r1]
       exact Out.wrote hH hB _ _ hrun r5 r6 r7 r8 r9 (fun hst=>full_over hob' g1 r2 r3 (by simpa using r4) (by simp) hls h1 (fun e he=>by rw [List.eq_of_mem_replicate he]; exact hzl) (fun k e l he hl=>replicate_reps hw' he hl) (by simp; omega)
        (fun p v hrp=>hrp.step hst (fun _ hd=>hd) (fun _ _=>.inl rfl))) .hole
    ·cases hc
theorem full_front (hH:SimH D m ok heap w) {id:AId} {sz ty n:Nat} {es:List (List PVal)} (ho:heap id = some (.full sz ty es)) (hn:n ≤ es.length) (hk:knownL (es.take n) = true) {v:Value} (hv:Rep w (okn ok m) D m false (.own id sz 0 n) v) :
  ∃ (A:Option Addr) (cap:Nat) (ls:List (List Value)),v = .slice A n cap ∧ ls.length = n ∧ (∀ l ∈ ls,l.length = sz) ∧ (∀ l ∈ ls,∀ u ∈ l,u.oneCell' = true) ∧ (∀ e ∈ es.take n,e.length = sz) ∧
   (∀ (k:Nat) (e:List PVal) (l:List Value),(es.take n)[k]? = some e → ls[k]? = some l → Reps w (okn ok m) D m true e l) ∧ cap = es.length ∧
   (∀ w':World,(∀ b,b < w.heap.size → w'.heap[b]? = w.heap[b]?) → (Builtin.firstCells sz n (.slice A n cap)).run P w' = .ok ls.flatten.toArray w') ∧
   (A = none → n = 0) ∧ (∀ ad,A = some ad → ∀ (j:Nat) (u:Value),ls.flatten[j]? = some u → w.cell? (ad.add j) = some u):=by
 have hH':=hH.weakObj ho (o':=.row sz ty (es.take n)) (fun B _ hob=>full_known hk hob)
 have hlen:(es.take n).length = n:=by simp; omega
 obtain ⟨A,n',cap,h1,h2,h3,h4⟩:=elems_are (es:=((es.take n).drop 0).take n) (sz:=sz) (rh:=[id]) hH' hv (by
  simp only [elems,if_true]
  rw [if_pos ⟨trivial,by omega⟩])
 have he:((es.take n).drop 0).take n = es.take n:=by rw [List.drop_zero,List.take_take,Nat.min_self]
 rw [he] at h2 h3 h4
 have hn':n' = n:=by omega
 subst hn'
 obtain ⟨B,hB,hob⟩:=hH.obj id _ ho
 have hcap:cap = es.length:=by
  cases hv with
  | own _ _ hp =>
   have hov:=hp B hB
   cases B with
   | nil =>
    obtain ⟨⟨A',e⟩,_,_⟩:=hov
    obtain ⟨rfl,_⟩:=hob
    rw [h1] at e
    cases e
    rfl
   | «at» b t =>
    obtain ⟨a,cap',e,_,_,_,_,g4,_⟩:=hov
    obtain ⟨vs,_,_,g3,_⟩:=hob
    rw [h1] at e
    injection e with _ _ e
    omega
 rcases Nat.eq_zero_or_pos n' with h0 | hpos
 ·subst h0
  refine ⟨A,cap,[],h1,rfl,fun l hl=>by simp at hl,fun l hl=>by simp at hl,h3,fun k e l he=>by simp at he,hcap,fun w' _=>?_,fun _=>rfl,fun ad _ j u hu=>by simp at hu⟩
  cases A <;> simp [Builtin.firstCells,loadCells,loadCellsFrom]
 ·obtain ⟨ad,hA,ls,y1,y2,y3,y4,y5⟩:=h4 (by omega)
  refine ⟨A,cap,ls,h1,by omega,y2,y3,h3,y4,hcap,fun w' hw'=>?_,fun e=>(by rw [e] at hA; cases hA),fun ad' e j u hu=>?_⟩
  ·have:=run_loadCells_list (P:=P) w' ad ls.flatten (fun j u hu=>by
    have hc:=y5 j u hu
    have hb:=World.block_lt_of_cell? w _ hc
    rw [← hc]
    exact cell_same (hw' _ hb))
   rw [flat_len y2,y1,hlen] at this
   rw [hA]
   simpa [Builtin.firstCells] using this
  ·rw [hA] at e
   injection e with e
   subst e
   exact y5 j u hu
theorem exec_append' {s x:Operand} {t t':TypeId} (hop:o.op = .call { callee:=.builtin .append,args:=#[s,x],argTypes:=#[t,t'] }) {v:Value} {w':World} (hv:(Builtin.append_ #[t,t'] o.type #[ρ s,ρ x]).run P w = .ok v w'):(execOp ρ o).run P w = .ok (.value v) w':=by
 unfold execOp
 simp only [hop]
 simp [resolve,invoke,builtin,hv]
theorem addr_zero_mul {b k q:Nat} (h:(⟨b,0 * k,none⟩ : Addr).add q = ⟨b,q,none⟩):(⟨b,0,none⟩ : Addr).add q = ⟨b,q,none⟩:=by simpa using h
theorem coreAppF_sound {args:Array Operand} {ats:Array TypeId} {s x:Operand} {t e:TypeId} {i:TypeInfo} {z:Value} {id sz1 lo n sz1' ty1 sz2:Nat} {es es2:List (List PVal)} {rh2:List AId}
  (h:o.op = .call { callee:=.builtin .append,args,argTypes:=ats }) (ha:args.toList = [s,x]) (hat:ats.toList = [t,t])
  (ht:P.underlying t = some (.slice e)) (hi:P.info? e = some i) (hz:i.zero = some z) (hpos:0 < i.size) (hzs:z.cells.size = i.size) (hH:SimH D m ok heap w) (hnx : ¬ D nx) (hs:Rep w (okn ok m) D m false (.own id sz1 lo n) (ρ s))
  (ho:heap id = some (.full sz1' ty1 es)) {A2:Option Addr} {n2 cap2:Nat} (hx:ρ x = .slice A2 n2 cap2) (hn2:n2 = es2.length) (hel:ElemsAre w ok D m sz2 es2 A2)
  (hc:coreAppF nx i.size e i.bytes id sz1 lo n sz1' ty1 es sz2 es2 rh2 = some r):Out P o ρ D m ok heap w r:=by
 have hop:=exec_builtin2 h ha hat
 unfold coreAppF at hc
 split at hc
 ·rename_i hcond
  obtain ⟨c1,c2,c3,c4,c5,c6⟩:=hcond
  subst c1 c2 c3 c4 c5
  rcases Nat.eq_zero_or_pos es2.length with hz2 | c7
  ·
   rw [if_pos (by omega)] at hc
   injection hc with hc
   subst hc
   have he2:es2 = []:=List.eq_nil_of_length_eq_zero hz2
   subst he2
   have hov:overE es n [] = es:=by simp [overE]
   rw [hov]
   simp only [List.length_nil,Nat.add_zero] at hn2 ⊢
   subst hn2
   obtain ⟨B,hB,hob⟩:=hH.obj id _ ho
   cases hs with
   | own hd h1v hp =>
    have hv:=hp B hB
    obtain ⟨A,cap,hA,hnc⟩ : ∃ A cap,ρ s = .slice A n cap ∧ n ≤ cap:=by
     cases B with
     | nil=>obtain ⟨⟨A,e⟩,_,e3⟩:=hv; exact ⟨A,0,by rw [e,e3],by omega⟩
     | «at» b t=>obtain ⟨a,cap,e,_,_,_,e3,_⟩:=hv; exact ⟨some a,cap,e,e3⟩
    have hrun:(execOp ρ o).run P w = .ok (.value (ρ s)) w:=by
     unfold execOp
     simp only [hop]
     rw [hA]
     cases A <;> cases A2 <;> simp [resolve,invoke,builtin,Builtin.append_,run_underlying ht,hA,hx,Builtin.lenOf,Builtin.firstCells,run_sizeOf hi,hnc,loadCells,loadCellsFrom,storeCells]
    cases B with
    | nil =>
     obtain ⟨he0,hsz0⟩:=hob
     subst he0
     obtain ⟨g1,g2,g3⟩:=hH.reloc (w':=w) (some id) nx .nil (.full i.size ty1 []) rfl (Tp.refl w) rfl (Nat.le_refl _) (fun b hb hn=>rfl) (.inr hnx) (fun b t' e=>by cases e) (fun hst=>⟨rfl,hsz0⟩)
     refine ⟨_,w,(fun i=>D i ∨ i = nx),_,.inl hrun,?_,g2,.own (.inr rfl) h1v fun B' hB'=>?_,fun i=>by simp,g3⟩
     ·rw [happ_two]; exact g1
     ·simp only [if_true,Option.some.injEq] at hB'
      subst hB'
      exact hv
    | «at» b tot =>
     exact Out.moved hH hnx hB _ _ hrun rfl rfl rfl rfl (fun _ _=>rfl) (fun m' D' hst=>by
      obtain ⟨vs,h1,h2,h3,h4,h5,h6,h7⟩:=hob
      exact ⟨vs,h1,h2,h3,h4,h5,h6,fun i j e p he hp=>by
       rcases h7 i j e p he hp with h | ⟨v,k1,k2,k3⟩
       ·exact .inl h
       ·exact .inr ⟨v,k1,k2,hst p v k3⟩⟩) hv h1v
  obtain ⟨ad,hA,ls,y1,y2,y3,y4,y5⟩:=hel.2 c7
  have hfl:=flat_len y2
  rw [y1] at hfl
  have hx':ρ x = .slice (some ad) es2.length cap2:=by rw [hx,hA,hn2]
  split at hc
  ·rename_i hroom
   injection hc with hc
   subst hc
   obtain ⟨B,hB,hob⟩:=hH.obj id _ ho
   cases hs with
   | own hd _ hp =>
    have hv:=hp B hB
    cases B with
    | nil =>
     obtain ⟨rfl,_⟩:=hob
     simp only [List.length_nil] at hroom
     omega
    | «at» b tot =>
     obtain ⟨cap,e1,e2,e3,e4⟩:=own_addr hv (.inr rfl)
     have hob':=hob
     obtain ⟨vs,g1,g2,g3,g4,g5,g6,g7⟩:=hob
     have hle:n * i.size + es2.length * i.size ≤ vs.size:=by
      rw [g2,← Nat.add_mul]
      exact Nat.mul_le_mul_right _ (by omega)
     obtain ⟨w',vs',r1,r2,r3,r4,r5,r6,r7,r8,r9⟩:=setCells_spec (P:=P) ls.flatten w b (n * i.size) vs ty1 0 g1 (by rw [hfl]; omega) (fun u hu=>by obtain ⟨l,hl,hu⟩:=List.mem_flatten.1 hu; exact y3 l hl u hu)
     have hf:(loadCells ad (es2.length * i.size)).run P w = .ok ls.flatten.toArray w:=by
      have:=run_loadCells_list (P:=P) w ad ls.flatten y5
      rwa [hfl] at this
     have hadd:(⟨b,0 * i.size,none⟩ : Addr).add (n * i.size) = ⟨b,n * i.size,none⟩:=by unfold Addr.add; simp; intro hh; exact hh.symm
     have hncap:n + es2.length ≤ cap:=by omega
     have hrun:(execOp ρ o).run P w = .ok (.value (.slice (some ⟨b,0 * i.size,none⟩) (n + es2.length) cap)) w':=by
      unfold execOp
      simp only [hop]
      simp [resolve,invoke,builtin,Builtin.append_,run_underlying ht,e1,hx',Builtin.lenOf,Builtin.firstCells,run_sizeOf hi,hf,hncap,r1,addr_zero_mul hadd]
     exact Out.moved hH hnx hB _ _ hrun r5 r6 r7 r8 r9 (fun m' D' hst=>full_over hob' g1 r2 r3 (by simpa using r4) y1 y2 y3 hel.1 y4 (by omega) hst) ⟨⟨b,0 * i.size,none⟩,cap,rfl,rfl,rfl,.inl rfl,hncap,e3,e4⟩ rfl
  ·rename_i hroom
   split at hc
   ·rename_i hcond2
    obtain ⟨d1,d2,d3⟩:=hcond2
    injection hc with hc
    subst hc
    obtain ⟨A,cap,ls0,z1,z2,z3,z4,z5,z6,z7,z8,z9,z10⟩:=full_front (P:=P) hH ho c6 d3 hs
    have hfl0:=flat_len z3
    rw [z2] at hfl0
    have hsmall:((n + es2.length:Nat):Int) ≤ 9223372036854775807:=by simp only [maxLen] at d2; omega
    have hge:=grownCap_ge w (n + es2.length) cap ty1
    have hcm:=grownCap_le_maxLen w (n + es2.length) cap ty1 d2
    have hrun:(Builtin.append_ #[t,t] o.type #[ρ s,ρ x]).run P w = .ok (.slice (some ⟨w.heap.size,0,none⟩) (n + es2.length) (grownCap w (n + es2.length) cap ty1)) (w.drew.alloc (.cells (ls0.flatten.toArray ++ ls.flatten.toArray ++ Builtin.zeroCells z.cells (grownCap w (n + es2.length) cap ty1 - (n + es2.length))) ty1)):=by
     rw [z1,hx']
     cases A with
     | some b0=>exact run_append_grow (P:=P) w t o.type ty1 i z ht hi hz b0 n cap ls0.flatten hfl0 (z10 b0 rfl) ad es2.length cap2 ls.flatten hfl y5 (by omega) hsmall (growslice_fits (by omega) d1)
     | none =>
      have hn0:=z9 rfl
      subst hn0
      have hl0:ls0 = []:=List.eq_nil_of_length_eq_zero z2
      have hcap0:cap = 0:=by
       have:Rep w (okn ok m) D m false (.own id i.size 0 0) (.slice none 0 cap):=by rw [← z1]; exact hs
       obtain ⟨B,hB,hob⟩:=hH.obj id _ ho
       cases this with
       | own _ _ hp =>
        have hov:=hp B hB
        cases B with
        | nil=>obtain ⟨⟨A',e⟩,_,_⟩:=hov; injection e
        | «at» b t=>obtain ⟨a,cap',e,_⟩:=hov; cases e
      subst hcap0 hl0
      have hr:=run_append_nil (P:=P) w t o.type ty1 i z ht hi hz ad es2.length cap2 ls.flatten hfl y5 (by omega) (by omega) (by simpa using Nat.le_trans d1 (by omega))
      simpa using hr
    refine Out.newD hH hnx (ls:=ls0 ++ ls) _ (exec_append' hop hrun) (by simp; omega) hge hcm ?_ ?_ hpos (fun e he=>by rcases List.mem_append.1 he with he | he; exact z5 e he; exact hel.1 e he) (fun l hl=>by rcases List.mem_append.1 hl with hl | hl; exact z3 l hl; exact y2 l hl)
     (by simp [z2,y1]; omega) (fun l hl=>by rcases List.mem_append.1 hl with hl | hl; exact z4 l hl; exact y3 l hl) (fun k e l he hl=>?_)
    ·simp only [Array.size_append,List.size_toArray,size_zeroCells,hzs,hfl0,hfl,← Nat.add_mul]
     congr 1
     omega
    ·simp only [Array.toList_append,List.flatten_append]
     exact List.prefix_append _ _
    ·by_cases hk:k < n
     ·rw [List.getElem?_append_left (by simp; omega)] at he
      rw [List.getElem?_append_left (by omega)] at hl
      exact z6 k e l he hl
     ·rw [List.getElem?_append_right (by simp; omega)] at he
      rw [List.getElem?_append_right (by omega),z2] at hl
      have:(List.take n es).length = n:=by simp; omega
      rw [this] at he
      exact y4 _ e l he hl
   ·cases hc
 ·cases hc
theorem core_appendZ {args:Array Operand} {ats:Array TypeId} {s x:Operand} {t tn e:TypeId} {i:TypeInfo} {z:Value} {zs:List PVal} {kn:IntKind} {p q:PVal} (h:o.op = .call { callee:=.builtin .append,args,argTypes:=ats }) (ha:args.toList = [s,x]) (hat:ats.toList = [t,tn])
  (ht:P.underlying t = some (.slice e)) (htn:P.underlying tn = some (.int kn)) (hi:P.info? e = some i) (hz:i.zero = some z) (hpos:0 < i.size) (hzz:z.cells.size = i.size) (hzs:zeroC z = some zs) (hH:SimH D m ok heap w) (hnx : ¬ D nx)
  (hs:Rep w (okn ok m) D m false p (ρ s)) (hx:Rep w (okn ok m) D m false q (ρ x)) (hc:core (.appendZ i.size e i.bytes zs) [p,q] heap nx = some r):Out P o ρ D m ok heap w r:=by
 have hop:=exec_builtin2 h ha hat
 cases p <;> cases q <;> simp only [core] at hc <;> try (cases hc; done)
 case nils.int kq k =>
  split at hc
  ·rename_i hcond
   obtain ⟨c6,c7,c8⟩:=hcond
   injection hc with hc
   subst hc
   obtain ⟨k,rfl⟩ : ∃ k':Nat,k = k':=⟨k.toNat,by omega⟩
   simp only [Int.toNat_natCast] at c6 c7 c8 ⊢
   have hk:0 < k:=by omega
   obtain ⟨hz1,hz2⟩:=zeroC_rep (w:=w) (ok:=okn ok m) (D:=D) (m:=m) (c:=true) hzs
   have hls : ∀ l ∈ List.replicate k z.cells.toList,l.length = i.size:=fun l hl=>by rw [List.eq_of_mem_replicate hl]; simpa using hzz
   have h1 : ∀ l ∈ List.replicate k z.cells.toList,∀ u ∈ l,u.oneCell' = true:=fun l hl u hu=>by rw [List.eq_of_mem_replicate hl] at hu; exact hz2 u hu
   have hzl:zs.length = i.size:=by rw [hz1.1]; simpa using hzz
   have hge:=grownCap_ge w (0 + k) 0 e
   have hcm:=grownCap_le_maxLen w (0 + k) 0 e (by omega)
   have hrun:(Builtin.append_ #[t,tn] o.type #[ρ s,ρ x]).run P w = .ok (.slice (some ⟨w.heap.size,0,none⟩) (0 + k) (grownCap w (0 + k) 0 e)) (w.drew.alloc (.cells (([]:List Value).toArray ++ Builtin.zeroCells z.cells k ++ Builtin.zeroCells z.cells (grownCap w (0 + k) 0 e - (0 + k))) e)):=by
    rw [rep_nils hs,rep_int hx]
    exact Lib.run_append_grow_zeros (P:=P) w t tn o.type e i z kq kn ht htn hi hz none 0 0 [] (by simp [Builtin.firstCells,loadCells,loadCellsFrom]) k hk hpos (by omega) (by simp only [maxLen] at c8; omega) (by omega) (growslice_fits (by omega) (by rw [Nat.zero_add]; omega))
   rw [Nat.zero_add] at hge hcm hrun
   refine Out.newD hH hnx (ls:=List.replicate k z.cells.toList) _ (exec_append' hop hrun) (by simp) hge hcm ?_ ?_ hpos (fun e he=>by rw [List.eq_of_mem_replicate he]; exact hzl) hls
    (by simp) h1 (fun k' e l he hl=>replicate_reps hz1 he hl)
   ·simp only [Array.size_append,List.size_toArray,size_zeroCells,hzz,List.length_nil,Nat.zero_add]
    rw [← Nat.add_mul]
    congr 1
    omega
   ·simp only [Array.toList_append,List.nil_append,zeroCells_flat]
    exact List.prefix_append _ _
  ·cases hc
 rename_i id sz1 lo n kq k
 cases ho:heap id with
 | none=>simp [ho] at hc
 | some ob =>
  cases ob <;> simp only [ho] at hc <;> try (cases hc; done)
  case full sz' ty es =>
   split at hc
   ·rename_i hcond
    obtain ⟨c1,c2,c3,c4,c5,c6,c7,c8,c9⟩:=hcond
    subst c1 c2 c3
    injection hc with hc
    subst hc
    obtain ⟨k,rfl⟩ : ∃ k':Nat,k = k':=⟨k.toNat,by omega⟩
    simp only [Int.toNat_natCast] at c6 c7 c8 ⊢
    have hk:0 < k:=by omega
    obtain ⟨A,cap,ls0,z1,z2,z3,z4,z5,z6,z7,z8,z9,z10⟩:=full_front (P:=P) hH ho c4 c9 hs
    obtain ⟨hz1,hz2⟩:=zeroC_rep (w:=w) (ok:=okn ok m) (D:=D) (m:=m) (c:=true) hzs
    have hfl0:=flat_len z3
    rw [z2] at hfl0
    have hls : ∀ l ∈ List.replicate k z.cells.toList,l.length = i.size:=fun l hl=>by rw [List.eq_of_mem_replicate hl]; simpa using hzz
    have h1 : ∀ l ∈ List.replicate k z.cells.toList,∀ u ∈ l,u.oneCell' = true:=fun l hl u hu=>by rw [List.eq_of_mem_replicate hl] at hu; exact hz2 u hu
    have hzl:zs.length = i.size:=by rw [hz1.1]; simpa using hzz
    have hfl:=flat_len hls
    simp only [List.length_replicate] at hfl
    have hge:=grownCap_ge w (n + k) cap e
    have hcm:=grownCap_le_maxLen w (n + k) cap e c8
    have hkb:k * i.bytes ≤ (n + k) * i.bytes:=Nat.mul_le_mul_right _ (by omega)
    have hrun:(Builtin.append_ #[t,tn] o.type #[ρ s,ρ x]).run P w = .ok (.slice (some ⟨w.heap.size,0,none⟩) (n + k) (grownCap w (n + k) cap e)) (w.drew.alloc (.cells (ls0.flatten.toArray ++ Builtin.zeroCells z.cells k ++ Builtin.zeroCells z.cells (grownCap w (n + k) cap e - (n + k))) e)):=by
     rw [z1,rep_int hx]
     exact Lib.run_append_grow_zeros (P:=P) w t tn o.type e i z kq kn ht htn hi hz A n cap ls0.flatten (z8 w.drew fun b _=>rfl) k hk hpos (by omega) (by simp only [maxLen] at c8; omega) (by omega) (growslice_fits (by omega) c7)
    refine Out.newD hH hnx (ls:=ls0 ++ List.replicate k z.cells.toList) _ (exec_append' hop hrun) (by simp; omega) hge hcm ?_ ?_ hpos (fun e he=>by rcases List.mem_append.1 he with he | he; exact z5 e he; rw [List.eq_of_mem_replicate he]; exact hzl) (fun l hl=>by rcases List.mem_append.1 hl with hl | hl; exact z3 l hl; exact hls l hl)
     (by simp [z2]; omega) (fun l hl=>by rcases List.mem_append.1 hl with hl | hl; exact z4 l hl; exact h1 l hl) (fun k' e l he hl=>?_)
    ·simp only [Array.size_append,List.size_toArray,size_zeroCells,hzz,hfl0,← Nat.add_mul]
     congr 1
     omega
    ·simp only [Array.toList_append,List.flatten_append,zeroCells_flat]
     exact List.prefix_append _ _
    ·by_cases hk':k' < n
     ·rw [List.getElem?_append_left (by simp; omega)] at he
      rw [List.getElem?_append_left (by omega)] at hl
      exact z6 k' e l he hl
     ·rw [List.getElem?_append_right (by simp; omega)] at he
      rw [List.getElem?_append_right (by omega),z2] at hl
      have:(List.take n es).length = n:=by simp; omega
      rw [this] at he
      exact replicate_reps hz1 he hl
   ·cases hc
end
end Go.Proofs.YtakallenldpkiaaGreatDoor.Abs
