/- Each operation of the abstract machine is what the model's operation does. Generic over any program. -/
import Derived.Test.YtakallenldpkiaaGreatDoorA2
set_option linter.unusedSectionVars false
namespace Go.Proofs.YtakallenldpkiaaGreatDoor.Abs
open Go
variable [DqC]
def Reps (w:World) (ok:Nat → Prop) (D:AId → Prop) (m:AId → Option Blk) (c:Bool) (ps:List PVal) (vs:List Value):Prop :=
 ps.length = vs.length ∧ ∀ (i:Nat) (p:PVal) (v:Value),ps[i]? = some p → vs[i]? = some v → Rep w ok D m c p v
theorem Reps.nil (w:World) (ok:Nat → Prop) (D:AId → Prop) (m:AId → Option Blk) (c:Bool):Reps w ok D m c [] []:=⟨rfl,fun i p v hp=>by simp at hp⟩
theorem Reps.cons {w:World} {ok:Nat → Prop} {D:AId → Prop} {m:AId → Option Blk} {c:Bool} {p:PVal} {v:Value} {ps:List PVal} {vs:List Value} (h:Rep w ok D m c p v) (hs:Reps w ok D m c ps vs) :
  Reps w ok D m c (p :: ps) (v :: vs):=by
 refine ⟨by simp [hs.1],fun i q u hq hu=>?_⟩
 cases i with
 | zero=>simp at hq hu; subst hq hu; exact h
 | succ i=>exact hs.2 i q u (by simpa using hq) (by simpa using hu)
theorem Reps.head {w:World} {ok:Nat → Prop} {D:AId → Prop} {m:AId → Option Blk} {c:Bool} {p:PVal} {v:Value} {ps:List PVal} {vs:List Value} (h:Reps w ok D m c (p :: ps) (v :: vs)):Rep w ok D m c p v:=h.2 0 p v rfl rfl
theorem Reps.tail {w:World} {ok:Nat → Prop} {D:AId → Prop} {m:AId → Option Blk} {c:Bool} {p:PVal} {v:Value} {ps:List PVal} {vs:List Value} (h:Reps w ok D m c (p :: ps) (v :: vs)):Reps w ok D m c ps vs :=
 ⟨by have:=h.1; simpa using this,fun i q u hq hu=>h.2 (i + 1) q u (by simpa using hq) (by simpa using hu)⟩
theorem Reps.uncons {w:World} {ok:Nat → Prop} {D:AId → Prop} {m:AId → Option Blk} {c:Bool} {p:PVal} {ps:List PVal} {vs:List Value} (h:Reps w ok D m c (p :: ps) vs) :
  ∃ v vs',vs = v :: vs' ∧ Rep w ok D m c p v ∧ Reps w ok D m c ps vs':=by
 cases vs with
 | nil=>have:=h.1; simp at this
 | cons v vs'=>exact ⟨v,vs',rfl,h.head,h.tail⟩
theorem Reps.unnil {w:World} {ok:Nat → Prop} {D:AId → Prop} {m:AId → Option Blk} {c:Bool} {vs:List Value} (h:Reps w ok D m c [] vs):vs = []:=List.eq_nil_of_length_eq_zero h.1.symm
theorem Reps.append {w:World} {ok:Nat → Prop} {D:AId → Prop} {m:AId → Option Blk} {c:Bool} {ps qs:List PVal} {vs us:List Value} (h:Reps w ok D m c ps vs) (k:Reps w ok D m c qs us):Reps w ok D m c (ps ++ qs) (vs ++ us):=by
 refine ⟨by simp [h.1,k.1],fun i p v hp hv=>?_⟩
 by_cases hi:i < ps.length
 ·rw [List.getElem?_append_left hi] at hp
  rw [List.getElem?_append_left (by rw [← h.1]; exact hi)] at hv
  exact h.2 i p v hp hv
 ·rw [List.getElem?_append_right (by omega)] at hp
  rw [List.getElem?_append_right (by rw [← h.1]; omega),← h.1] at hv
  exact k.2 _ p v hp hv
theorem Reps.take {w:World} {ok:Nat → Prop} {D:AId → Prop} {m:AId → Option Blk} {c:Bool} {ps:List PVal} {vs:List Value} (h:Reps w ok D m c ps vs) (n:Nat):Reps w ok D m c (ps.take n) (vs.take n):=by
 refine ⟨by simp [h.1],fun i p v hp hv=>h.2 i p v ?_ ?_⟩
 ·rw [List.getElem?_take] at hp; split at hp <;> simp_all
 ·rw [List.getElem?_take] at hv; split at hv <;> simp_all
theorem Reps.drop {w:World} {ok:Nat → Prop} {D:AId → Prop} {m:AId → Option Blk} {c:Bool} {ps:List PVal} {vs:List Value} (h:Reps w ok D m c ps vs) (n:Nat):Reps w ok D m c (ps.drop n) (vs.drop n):=by
 refine ⟨by simp [h.1],fun i p v hp hv=>h.2 (n + i) p v ?_ ?_⟩
 ·rwa [List.getElem?_drop] at hp
 ·rwa [List.getElem?_drop] at hv
theorem Reps.set {w:World} {ok:Nat → Prop} {D:AId → Prop} {m:AId → Option Blk} {c:Bool} {ps:List PVal} {vs:List Value} (h:Reps w ok D m c ps vs) {p:PVal} {v:Value} (hp:Rep w ok D m c p v) (n:Nat) :
  Reps w ok D m c (ps.set n p) (vs.set n v):=by
 refine ⟨by simp [h.1],fun i q u hq hu=>?_⟩
 rw [List.getElem?_set] at hq hu
 by_cases e:n = i
 ·rw [if_pos e] at hq hu
  split at hq
  ·split at hu
   ·injection hq with hq; injection hu with hu; subst hq hu; exact hp
   ·cases hu
  ·cases hq
 ·rw [if_neg e] at hq hu
  exact h.2 i q u hq hu
theorem Reps.mono {w w':World} {ok ok':Nat → Prop} {D D':AId → Prop} {m m':AId → Option Blk} {c c':Bool} {ps:List PVal} {vs:List Value} (h:Reps w ok D m c ps vs) (hh : ∀ p v,Rep w ok D m c p v → Rep w' ok' D' m' c' p v):Reps w' ok' D' m' c' ps vs :=
 ⟨h.1,fun i p v hp hv=>hh p v (h.2 i p v hp hv)⟩
def spliceV (vs:List Value) (off:Nat) (us:List Value):List Value :=
 match us with
 | [u]=>vs.set off u
 | _=>vs.take off ++ us ++ vs.drop (off + us.length)
theorem Reps.splice {w:World} {ok:Nat → Prop} {D:AId → Prop} {m:AId → Option Blk} {c:Bool} {ps qs:List PVal} {vs us:List Value} (h:Reps w ok D m c ps vs) (k:Reps w ok D m c qs us) (off:Nat) :
  Reps w ok D m c (Abs.splice ps off qs) (spliceV vs off us):=by
 match qs,us,k with
 | [],[],k=>simpa [Abs.splice,spliceV] using h
 | [q],[u],k=>exact h.set k.head off
 | q :: q' :: qs,u :: u' :: us,k =>
  have:=((h.take off).append k).append (h.drop (off + (q :: q' :: qs).length))
  rw [k.1] at this
  simpa [Abs.splice,spliceV,k.1] using this
 | [],_ :: _,k=>have:=k.1; simp at this
 | _ :: _,[],k=>have:=k.1; simp at this
 | [_],_ :: _ :: _,k=>have:=k.1; simp at this
 | _ :: _ :: _,[_],k=>have:=k.1; simp at this
section
variable {w:World} {ok:Nat → Prop} {D:AId → Prop} {m:AId → Option Blk} {c:Bool}
theorem ofConst1_rep {v:Value} {p:PVal} (h:ofConst1 v = some p):Rep w ok D m c p v ∧ v.oneCell' = true:=by
 unfold ofConst1 at h
 split at h <;> simp at h <;> subst h
 ·exact ⟨.bool,rfl⟩
 ·exact ⟨.int,rfl⟩
 ·exact ⟨.str,rfl⟩
 ·exact ⟨.nilp,rfl⟩
 ·exact ⟨.nils,rfl⟩
 ·exact ⟨.nilf,rfl⟩
 ·exact ⟨.nili,rfl⟩
 ·exact ⟨.nilm,rfl⟩
theorem ofConsts_rep : ∀ {vs:List Value} {ps:List PVal},ofConsts vs = some ps → (∀ v ∈ vs,v.oneCell' = true) ∧ Reps w ok D m c ps vs
 | [],ps,h=>by
  simp [ofConsts] at h
  subst h
  exact ⟨fun v hv=>by simp at hv,Reps.nil ..⟩
 | v :: r,ps,h=>by
  unfold ofConsts at h
  split at h
  ·rename_i p ps' h1 h2
   injection h with h
   subst h
   obtain ⟨a2,a3⟩:=ofConsts_rep h2
   obtain ⟨b1,b2⟩:=ofConst1_rep (w:=w) (ok:=ok) (D:=D) (m:=m) (c:=c) h1
   refine ⟨fun u hu=>?_,Reps.cons b1 a3⟩
   rcases List.mem_cons.1 hu with rfl | hu
   ·exact b2
   ·exact a2 u hu
  ·cases h
theorem ofConst_rep {v:Value} {p:PVal} (h:ofConst v = some p):Rep w ok D m c p v:=by
 unfold ofConst at h
 split at h
 ·rename_i cs
  obtain ⟨ps,h1,rfl⟩:=Option.map_eq_some_iff.1 h
  obtain ⟨a2,a3⟩:=ofConsts_rep (w:=w) (ok:=ok) (D:=D) (m:=m) (c:=c) h1
  have:=Rep.agg (w:=w) (ok:=ok) (D:=D) (m:=m) (c:=c) a3.1 a2 a3.2
  simpa using this
 ·exact (ofConst1_rep h).1
theorem one_cells {v:Value} (h:v.oneCell' = true):v.cells = #[v]:=by cases v <;> simp_all [Value.cells,Value.oneCell']
theorem cells_rep {p:PVal} {v:Value} {cs:List PVal} (h:Rep w ok D m c p v) (hc:p.cells = some cs):(∀ u ∈ v.cells.toList,u.oneCell' = true) ∧ Reps w ok D m c cs v.cells.toList:=by
 by_cases ho:p.one = true
 ·have h1:=h.one ho
  have hcs:cs = [p]:=by
   cases p <;> simp_all [PVal.cells,PVal.one]
  subst hcs
  rw [one_cells h1]
  exact ⟨fun u hu=>by simp at hu; subst hu; exact h1,Reps.cons h (Reps.nil ..)⟩
 ·cases h
  case agg cs' vs hl h1 h2 =>
   simp [PVal.cells] at hc
   subst hc
   exact ⟨fun u hu=>h1 u (by simpa [Value.cells] using hu),by have:Reps w ok D m c cs' vs:=⟨hl,h2⟩; simpa only [Value.cells] using this⟩
  all_goals simp_all [PVal.cells,PVal.one]
end
def happ (wh:List (AId × Option AObj)) (heap:AId → Option AObj):AId → Option AObj:=fun id=>match wh.lookup id with
 | some o=>o
 | none=>heap id
def Out (P:Program) (o:Oper) (ρ:Operand → Value) (D:AId → Prop) (m:AId → Option Blk) (ok:Nat → Prop) (heap:AId → Option AObj) (w:World) (r:R):Prop :=
 ∃ (v:Value) (w':World) (D':AId → Prop) (m':AId → Option Blk),((execOp ρ o).run P w = .ok (.value v) w' ∨ (v = undef ∧ (execOp ρ o).run P w = .ok .skip w')) ∧
  SimH D' m' ok (happ r.wh heap) w' ∧ Step m w m' w' ∧ Rep w' (okn ok m') D' m' false r.v v ∧ (∀ id,D' id ↔ D id ∨ id ∈ r.nw) ∧ (∀ id,D id → m' id = m id ∨ m' id = none)
section
variable {P:Program} {o:Oper} {ρ:Operand → Value} {D:AId → Prop} {m:AId → Option Blk} {ok:Nat → Prop} {heap:AId → Option AObj} {w:World}
theorem Out.pure (hH:SimH D m ok heap w) {v:Value} {p:PVal} (rh:List AId) (hr:(execOp ρ o).run P w = .ok (.value v) w) (hp:Rep w (okn ok m) D m false p v):Out P o ρ D m ok heap w { v:=p,rh } :=
 ⟨v,w,D,m,.inl hr,hH,Step.refl m w,hp,fun id=>by simp,fun _ _=>.inl rfl⟩
theorem happ_one (id:AId) (x:Option AObj) (heap:AId → Option AObj):happ [(id,x)] heap = fun i=>if i = id then x else heap i:=by
 funext i
 by_cases h:i = id
 ·subst h; simp [happ,List.lookup]
 ·have:(i == id) = false:=by simpa using h
  simp [happ,List.lookup,this,h]
theorem happ_two (id id0:AId) (x:Option AObj) (heap:AId → Option AObj):happ [(id,x),(id0,none)] heap = fun i=>if i = id then x else if some id0 = some i then none else heap i:=by
 funext i
 by_cases h:i = id
 ·subst h; simp [happ,List.lookup]
 ·have h1:(i == id) = false:=by simpa using h
  by_cases h2:i = id0
  ·subst h2; simp [happ,List.lookup,h1,h]
  ·have h3:(i == id0) = false:=by simpa using h2
   have h4 : ¬ id0 = i:=fun e=>h2 e.symm
   simp [happ,List.lookup,h1,h,h3,h4]
theorem Out.new (hH:SimH D m ok heap w) {nx:AId} (hnx : ¬ D nx) {v:Value} {p:PVal} (obj:AObj) (ob:Obj) (tot:Nat) (rh:List AId)
  (hr:(execOp ρ o).run P w = .ok (.value v) (w.alloc ob))
  (hobj : ∀ m' D',Step m w m' (w.alloc ob) → (∀ id,D id → D' id) → (∀ id,D id → m' id = m id ∨ m' id = none) → RepObj (w.alloc ob) ok D' m' obj (.at w.heap.size tot))
  (hp : ∀ m' D',Step m w m' (w.alloc ob) → (∀ id,D id → D' id) → (∀ id,D id → m' id = m id ∨ m' id = none) → D' nx → m' nx = some (.at w.heap.size tot) → Rep (w.alloc ob) (okn ok m') D' m' false p v) :
  Out P o ρ D m ok heap w { v:=p,rh,wh:=[(nx,some obj)],nw:=[nx] }:=by
 have hk : ∀ b,b < w.heap.size → (w.alloc ob).heap[b]? = w.heap[b]?:=fun b hb=>heap_alloc_old w ob hb
 have hm1 : ∀ id,D id → (fun i=>if i = nx then some (Blk.at w.heap.size tot) else if (none:Option AId) = some i then none else m i) id = m id ∨ (fun i=>if i = nx then some (Blk.at w.heap.size tot) else if (none:Option AId) = some i then none else m i) id = none:=by
  intro id hd
  by_cases h:id = nx
  ·subst h; exact absurd hd hnx
  ·left; simp [h]
 obtain ⟨h1,h2,h3⟩:=hH.reloc (w':=w.alloc ob) none nx (.at w.heap.size tot) obj rfl (Tp.same rfl rfl) rfl (by simp) (fun b hb _=>hk b hb) (.inr hnx)
  (fun b t e=>by injection e with e _; subst e; exact ⟨by simp,.inl (Nat.le_refl _)⟩) (fun hst=>hobj _ _ hst (fun _=>.inl) hm1)
 refine ⟨v,w.alloc ob,(fun i=>D i ∨ i = nx),_,.inl hr,?_,h2,hp _ _ h2 (fun _=>.inl) h3 (.inr rfl) (by simp),fun id=>by simp,h3⟩
 rw [happ_one]
 simpa using h1
theorem exec_mov {x:Operand} (h:o.op = .move x ∨ o.op = .assign x):(execOp ρ o).run P w = .ok (.value (ρ x)) w:=by
 rcases h with h | h <;> unfold execOp <;> simp only [h] <;> rfl
theorem exec_pick {c a b:Operand} {t:Bool} (h:o.op = .pick c a b) (hc:ρ c = .bool t):(execOp ρ o).run P w = .ok (.value (if t then ρ a else ρ b)) w:=by
 unfold execOp
 simp only [h,hc]
 simp [asBool]
theorem exec_alloc {e:TypeId} {i:TypeInfo} {z:Value} (h:o.op = .alloc e) (hi:P.info? e = some i) (hz:i.zero = some z) :
  (execOp ρ o).run P w = .ok (.value (.pointer (some ⟨w.heap.size,0,none⟩))) (w.alloc (.cells z.cells e)):=by
 unfold execOp
 simp only [h]
 simp [Instr.alloc,zeroValue,typeInfo,hi,hz,newVar,newRow]
theorem exec_box {e:TypeId} {x:Operand} (h:o.op = .box e x) :
  (execOp ρ o).run P w = .ok (.value (.pointer (some ⟨w.heap.size,0,none⟩))) (w.alloc (.cells (ρ x).cells e)):=by
 unfold execOp
 simp only [h]
 simp [Instr.box,newVar,newRow]
theorem run_isAgg {t:TypeId} {d:TypeDesc} (hd:P.underlying t = some d):(isAgg t).run P w = .ok (isAggD d) w:=by
 unfold isAgg
 simp only [Sem.run_bind,run_underlying hd,Result.andThen_ok]
 cases d <;> rfl
theorem run_sizeOf {t:TypeId} {i:TypeInfo} (hi:P.info? t = some i):(sizeOf t).run P w = .ok i.size w:=by
 simp [sizeOf,typeInfo,hi]
theorem run_loadVar {t:TypeId} {d:TypeDesc} {i:TypeInfo} (hd:P.underlying t = some d) (hi:P.info? t = some i) (ad:Addr) (vs:List Value) (hl:vs.length = if isAggD d then i.size else 1)
  (hc : ∀ j u,vs[j]? = some u → w.cell? (ad.add j) = some u) :
  (loadVar t ad).run P w = .ok (if isAggD d then .agg vs.toArray else vs.headD undef) w:=by
 unfold loadVar
 simp only [Sem.run_bind,run_isAgg hd,Result.andThen_ok]
 cases hg:isAggD d with
 | true =>
  simp only [hg,if_true] at hl
  simp only [if_true,Sem.run_bind,run_sizeOf hi,Result.andThen_ok,← hl,run_loadCells_list w ad vs hc]
  rfl
 | false =>
  simp only [hg,Bool.false_eq_true,if_false] at hl
  match vs,hl with
  | [u],_ =>
   have:=hc 0 u rfl
   have ha:ad.add 0 = ad:=by simp [Addr.add]
   rw [ha] at this
   simp [this]
theorem get_of_take {α:Type} {l:List α} {n q:Nat} {u:α} (h:(l.take n)[q]? = some u):l[q]? = some u:=by
 rw [List.getElem?_take] at h
 split at h
 ·exact h
 ·cases h
theorem peek_rep {c:Bool} {agg:Bool} {size:Nat} {cs:List PVal} {vs:List Value} {off:Nat} {p:PVal} (h:Reps w ok D m c cs vs) (h1 : ∀ v ∈ vs,v.oneCell' = true)
  (hk:peek (if agg then some size else none) cs off = some p) :
  ((vs.drop off).take (if agg then size else 1)).length = (if agg then size else 1) ∧
   Rep w ok D m c p (if agg then .agg ((vs.drop off).take (if agg then size else 1)).toArray else ((vs.drop off).take (if agg then size else 1)).headD undef):=by
 cases agg with
 | true =>
  simp only [peek,if_true] at hk ⊢
  split at hk
  ·rename_i hle
   injection hk with hk
   subst hk
   have hl:off + size ≤ vs.length:=by rw [← h.1]; exact hle
   refine ⟨by simp; omega,?_⟩
   have hr:=(h.drop off).take size
   exact Rep.agg hr.1 (fun v hv=>h1 v (List.mem_of_mem_drop (List.mem_of_mem_take hv))) hr.2
  ·cases hk
 | false =>
  simp only [peek,Bool.false_eq_true,if_false] at hk ⊢
  have hlt:off < cs.length:=by
   rcases Nat.lt_or_ge off cs.length with h' | h'
   ·exact h'
   ·rw [List.getElem?_eq_none h'] at hk; cases hk
  have hlt':off < vs.length:=by rw [← h.1]; exact hlt
  have hd:(vs.drop off).take 1 = [vs[off]]:=by rw [List.drop_eq_getElem_cons hlt']; rfl
  rw [hd]
  exact ⟨rfl,h.2 off p _ hk (List.getElem?_eq_getElem hlt')⟩
theorem box_reps {cs:List PVal} {b t:Nat} (h:RepObj w ok D m (.box cs) (.at b t)) : ∃ (vs:Array Value) (ty:TypeId),w.heap[b]? = some (.cells vs ty (0,0)) ∧ Reps w (okn ok m) D m false cs vs.toList ∧ ∀ v ∈ vs.toList,v.oneCell' = true:=by
 obtain ⟨vs,ty,h1,h2,h3⟩:=h
 refine ⟨vs,ty,h1,⟨by simp [h2],fun i p v hp hv=>?_⟩,fun v hv=>?_⟩
 ·obtain ⟨v',h4,_,h6⟩:=h3 i p hp
  rw [Array.getElem?_toList,h4] at hv
  injection hv with hv
  subst hv
  exact h6
 ·obtain ⟨i,hi,rfl⟩:=List.mem_iff_getElem.1 hv
  have hi':i < cs.length:=by rw [← h2]; simpa using hi
  obtain ⟨v',h4,h5,_⟩:=h3 i _ (List.getElem?_eq_getElem hi')
  have:vs.toList[i]? = some v':=by rw [Array.getElem?_toList]; exact h4
  rw [List.getElem?_eq_getElem hi] at this
  injection this with this
  rw [this]; exact h5
theorem row_reps {sz ty:Nat} {es:List (List PVal)} {b tot i:Nat} (h:RepObj w ok D m (.row sz ty es) (.at b tot)) (hi:i < es.length) :
  ∃ (vs:Array Value),w.heap[b]? = some (.cells vs ty (0,0)) ∧ Reps w (okn ok m) D m true (es.getD i []) ((vs.toList.drop (i * sz)).take sz) ∧ (∀ v ∈ (vs.toList.drop (i * sz)).take sz,v.oneCell' = true) ∧ i * sz + sz ≤ vs.size ∧ (es.getD i []).length = sz:=by
 obtain ⟨vs,h1,h2,h3,h3',h4,h5,h6⟩:=h
 have he:es[i]? = some (es.getD i []):=by simp [List.getD,List.getElem?_eq_getElem hi]
 have hl:(es.getD i []).length = sz:=h5 _ (List.mem_of_getElem? he)
 have hb:i * sz + sz ≤ vs.size:=by
  rw [h2]
  have:(i + 1) * sz ≤ tot * sz:=Nat.mul_le_mul_right _ (by omega)
  rw [Nat.succ_mul] at this
  exact this
 have hlen:((vs.toList.drop (i * sz)).take sz).length = sz:=by simp; omega
 have hat : ∀ j,j < sz → ((vs.toList.drop (i * sz)).take sz)[j]? = vs[i * sz + j]?:=by
  intro j hj
  rw [List.getElem?_take,if_pos hj,List.getElem?_drop,Array.getElem?_toList]
 refine ⟨vs,h1,⟨by rw [hlen,hl],fun j p v hp hv=>?_⟩,fun v hv=>?_,hb,hl⟩
 ·have hj:j < sz:=by
   rcases Nat.lt_or_ge j sz with h' | h'
   ·exact h'
   ·rw [List.getElem?_eq_none (by rw [hlen]; exact h')] at hv; cases hv
  obtain ⟨v',h7,_,h9⟩:=h6 i j _ p he hp
  rw [hat j hj,h7] at hv
  injection hv with hv
  subst hv
  exact h9
 ·obtain ⟨j,hj,rfl⟩:=List.mem_iff_getElem.1 hv
  have hj':j < sz:=by rw [hlen] at hj; exact hj
  obtain ⟨v',h7,h8,_⟩:=h6 i j _ _ he (List.getElem?_eq_getElem (by rw [hl]; exact hj'))
  have:=hat j hj'
  rw [List.getElem?_eq_getElem hj,h7] at this
  injection this with this
  rw [this]; exact h8
theorem rptr_reps {c:Bool} {cs:List PVal} {v:Value} (h:Rep w ok D m c (.rptr cs) v) :
  ∃ (ad:Addr) (vs:List Value),v = .pointer (some ad) ∧ Reps w ok D m true cs vs ∧ (∀ u ∈ vs,u.oneCell' = true) ∧ ∀ j u,vs[j]? = some u → w.cell? (ad.add j) = some u:=by
 cases h with
 | @rptr _ _ ad vs hcell h =>
  refine ⟨ad,(List.range cs.length).map vs,rfl,⟨by simp,fun i p u hp hu=>?_⟩,fun u hu=>?_,fun j u hu=>?_⟩
  ·have hi:i < cs.length:=(List.getElem?_eq_some_iff.1 hp).1
   rw [List.getElem?_map,List.getElem?_range hi] at hu
   simp at hu
   subst hu
   exact h i p hp
  ·obtain ⟨j,hj,rfl⟩:=List.mem_map.1 hu
   exact (hcell j _ (List.getElem?_eq_getElem (List.mem_range.1 hj))).2.2
  ·have hj:j < cs.length:=by
    rcases Nat.lt_or_ge j cs.length with h' | h'
    ·exact h'
    ·rw [List.getElem?_eq_none (by simpa using h')] at hu; cases hu
   rw [List.getElem?_map,List.getElem?_range hj] at hu
   simp at hu
   subst hu
   exact (hcell j _ (List.getElem?_eq_getElem hj)).2.1
theorem ro_elem {c:Bool} {sz:Nat} {es:List (List PVal)} {v:Value} (h:Rep w ok D m c (.ro sz es) v) :
  ∃ A n cap,v = .slice A n cap ∧ n = es.length ∧ n ≤ cap ∧ cap ≤ maxLen ∧ (∀ e ∈ es,e.length = sz) ∧ ∀ i,i < es.length → ∃ ad,A = some ad ∧ Rep w ok D m true (.rptr (es.getD i [])) (.pointer (some (ad.add (i * sz)))):=by
 cases h with
 | @ro _ _ _ A n cap ad vs hn hc hm hs hA hcell h =>
  refine ⟨A,n,cap,rfl,hn.symm,hc,hm,hs,fun i hi=>⟨ad,hA (by omega),?_⟩⟩
  have he:es[i]? = some (es.getD i []):=by simp [List.getD,List.getElem?_eq_getElem hi]
  refine Rep.rptr (vs i) (fun j p hp=>?_) (fun j p hp=>h i j _ p he hp)
  obtain ⟨h1,h2,h3⟩:=hcell i j _ p he hp
  refine ⟨by rw [Addr.add_block]; exact h1,?_,h3⟩
  have:(ad.add (i * sz)).add j = ad.add (i * sz + j):=by
   unfold Addr.add
   by_cases h1:i * sz = 0 <;> by_cases h2:j = 0 <;> simp_all [Nat.add_assoc]
  rw [this]; exact h2
theorem add_add' (ad:Addr) (i j:Nat):(ad.add i).add j = ad.add (i + j):=by
 unfold Addr.add
 by_cases h1:i = 0 <;> by_cases h2:j = 0 <;> simp_all [Nat.add_assoc]
theorem rptr_drop {c:Bool} {cs:List PVal} {ad:Addr} (h:Rep w ok D m c (.rptr cs) (.pointer (some ad))) (off:Nat):Rep w ok D m c (.rptr (cs.drop off)) (.pointer (some (ad.add off))):=by
 cases h with
 | rptr vs hcell h =>
  refine Rep.rptr (fun j=>vs (off + j)) (fun j p hp=>?_) (fun j p hp=>h (off + j) p (by rwa [List.getElem?_drop] at hp))
  rw [List.getElem?_drop] at hp
  obtain ⟨h1,h2,h3⟩:=hcell _ p hp
  exact ⟨by rw [Addr.add_block]; exact h1,by rw [add_add']; exact h2,h3⟩
theorem cell_at {w:World} {b:Nat} {vs:Array Value} {ty:TypeId} {f:Nat × Nat} (h:w.heap[b]? = some (.cells vs ty f)) (i:Nat):w.cell? ⟨b,i,none⟩ = vs[i]?:=by
 simp [World.cell?,h]
theorem add_flat (b o j:Nat):(⟨b,o,none⟩ : Addr).add j = ⟨b,o + j,none⟩:=by
 unfold Addr.add
 split
 ·rename_i h; subst h; rfl
 ·rfl
theorem cells_of_block {w:World} {b:Nat} {vs:Array Value} {ty:TypeId} {f:Nat × Nat} (h:w.heap[b]? = some (.cells vs ty f)) (o n:Nat) :
  ∀ (j:Nat) (u:Value),((vs.toList.drop o).take n)[j]? = some u → w.cell? ((⟨b,o,none⟩ : Addr).add j) = some u:=by
 intro j u hu
 rw [List.getElem?_take] at hu
 split at hu
 ·rw [List.getElem?_drop,Array.getElem?_toList] at hu
  rw [add_flat,cell_at h]
  exact hu
 ·cases hu
theorem exec_load {t:TypeId} {x:Operand} {d:TypeDesc} {i:TypeInfo} (h:o.op = .load t x) (hd:P.underlying t = some d) (hi:P.info? t = some i) {ad:Addr} (hx:ρ x = .pointer (some ad))
  (vs:List Value) (hl:vs.length = if isAggD d then i.size else 1) (hc : ∀ j u,vs[j]? = some u → w.cell? (ad.add j) = some u) :
  (execOp ρ o).run P w = .ok (.value (if isAggD d then .agg vs.toArray else vs.headD undef)) w:=by
 unfold execOp
 simp only [h,hx]
 simp [Instr.loadAt,Instr.sureAddr,run_loadVar hd hi ad vs hl hc]
end
end Go.Proofs.YtakallenldpkiaaGreatDoor.Abs
