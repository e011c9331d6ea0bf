/- A range over a function: the rounds walked as code; a function that holds one. Generic over any program. -/
import Derived.Test.YtmfggjebbhdejaaGreatA22
import Derived.RangeFuncLeaves
import Derived.RangeFuncKeeps
set_option linter.unusedVariables false
set_option linter.unusedSimpArgs false
namespace Go.Proofs.YtmfggjebbhdejaaGreat.Abs
open Go
section
variable {w w':World} {ok:Nat → Prop} {D:AId → Prop} {m:AId → Option Blk}
theorem Rep.other {c:Bool} {p:PVal} {v:Value} (h:Rep w ok D m c p v) (hc : ∀ a u,w.cell? a = some u → w'.cell? a = some u):Rep w' ok D m c p v :=
 h.mono (fun a u _ h=>hc a u h) (fun _ h _=>h) (fun h=>h) (fun _ _ _ h=>h) (fun _ _ _ _=>.inl rfl)
theorem RepObj.other {o:AObj} {B:Blk} (h:RepObj w ok D m o B) (hc : ∀ a u,w.cell? a = some u → w'.cell? a = some u) (hB : ∀ b t,B = .at b t → w'.heap[b]? = w.heap[b]?):RepObj w' ok D m o B:=by
 cases o with
 | box cs =>
  cases B with
  | nil=>exact h
  | «at» b t =>
   obtain ⟨vs,ty,h1,h2,h3⟩:=h
   refine ⟨vs,ty,(hB b t rfl).trans h1,h2,fun i p hp=>?_⟩
   obtain ⟨v,h4,h5,h6⟩:=h3 i p hp
   exact ⟨v,h4,h5,h6.other hc⟩
 | row sz ty es =>
  cases B with
  | nil=>exact h
  | «at» b t =>
   obtain ⟨vs,h1,h2,h3,h3',h4,h5,h6⟩:=h
   refine ⟨vs,(hB b t rfl).trans h1,h2,h3,h3',h4,h5,fun i j e p he hp=>?_⟩
   obtain ⟨v,h7,h8,h9⟩:=h6 i j e p he hp
   exact ⟨v,h7,h8,h9.other hc⟩
 | full sz ty es =>
  cases B with
  | nil=>exact h
  | «at» b t =>
   obtain ⟨vs,h1,h2,h3,h3',h4,h5,h6⟩:=h
   refine ⟨vs,(hB b t rfl).trans h1,h2,h3,h3',h4,h5,fun i j e p he hp=>?_⟩
   rcases h6 i j e p he hp with h7 | ⟨v,h7,h8,h9⟩
   ·exact .inl h7
   ·exact .inr ⟨v,h7,h8,h9.other hc⟩
 | mp kvs =>
  cases B with
  | nil=>exact h
  | «at» b t =>
   obtain ⟨ents,clock,h1,h2,h3⟩:=h
   refine ⟨ents,clock,(hB b t rfl).trans h1,h2,fun i k x hkx=>?_⟩
   obtain ⟨e,h4,h5,h6⟩:=h3 i k x hkx
   exact ⟨e,h4,h5.other hc,h6.other hc⟩
theorem SimH.other {heap:AId → Option AObj} (h:SimH D m ok heap w) (hc : ∀ a u,w.cell? a = some u → w'.cell? a = some u) (hsz:w.heap.size ≤ w'.heap.size) (hB : ∀ id b t,m id = some (.at b t) → w'.heap[b]? = w.heap[b]?)
  (hg : ∀ x ∈ Gs,w'.heap[x.1]? = w.heap[x.1]?):SimH D m ok heap w' :=
 ⟨fun id o ho=>by
  obtain ⟨B,h1,h2⟩:=h.obj id o ho
  exact ⟨B,h1,h2.other hc fun b t e=>by subst e; exact hB id b t h1⟩,h.dom,h.inj,fun id b t e=>Nat.lt_of_lt_of_le (h.lt id b t e) hsz,h.okm,fun b hb=>h.fresh b (Nat.le_trans hsz hb),
  fun x hx=>by
   obtain ⟨h1,o,h2,h3⟩:=h.glob x hx
   exact ⟨h1,o,(hg x hx).trans h2,h3⟩⟩
def Ext (w w':World):Prop:=Step (fun _=>none) w (fun _=>none) w'
theorem Ext.of {m':AId → Option Blk} (h:Step (fun _=>none) w m' w'):Ext w w':=⟨h.os,h.tape,h.output,h.size,h.keep,fun _ _ _ e=>by cases e⟩
theorem Ext.refl (w:World):Ext w w:=Step.refl _ w
theorem Ext.trans {w2:World} (h:Ext w w') (k:Ext w' w2):Ext w w2:=Step.trans h k
theorem Ext.heap (h:Ext w w') {b:Nat} (hb:b < w.heap.size):w'.heap[b]? = w.heap[b]?:=h.keep b hb fun _ _ e=>by cases e
theorem Ext.at (h:Ext w w') {b:Nat} {o:Obj} (hb:w.heap[b]? = some o):w'.heap[b]? = some o:=(h.heap (Array.getElem?_eq_some_iff.1 hb).1).trans hb
theorem Ext.step (h:Ext w w') (m:AId → Option Blk):Step m w m w':=⟨h.os,h.tape,h.output,h.size,fun b hb _=>h.heap hb,fun id b t e=>.inl ⟨id,t,e⟩⟩
theorem Ext.cell (h:Ext w w') {a:Addr} {u:Value} (hc:w.cell? a = some u):w'.cell? a = some u:=by rw [cell_same (h.heap (cell_lt hc))]; exact hc
theorem Ext.alloc (w:World) (o:Obj):Ext w (w.alloc o) :=
 ⟨rfl,rfl,rfl,by rw [World.size_alloc]; omega,fun b hb _=>by show (w.heap.push o)[b]? = _; rw [Array.getElem?_push_lt hb,Array.getElem?_eq_getElem hb],fun _ _ _ e=>by cases e⟩
theorem SimH.ext {heap:AId → Option AObj} (h:SimH D m ok heap w) (hx:Ext w w'):SimH D m ok heap w' :=
 h.other (fun _ _ hc=>hx.cell hc) hx.size (fun id b t e=>hx.heap (h.lt id b t e)) fun x hg=>by
  obtain ⟨_,o,h2,_⟩:=h.glob x hg
  exact hx.heap (Array.getElem?_eq_some_iff.1 h2).1
theorem putObj_cell {l:Nat} {o o':Obj} (hl:w.heap[l]? = some o) (ho:o.isCells = false) {a:Addr} {u:Value} (hc:w.cell? a = some u):(w.putObj l o').cell? a = some u:=by
 obtain ⟨o2,h1,h2⟩:=cells_of_cell hc
 have hne:a.block ≠ l:=by
  rintro e
  rw [e,hl] at h1
  injection h1 with h1
  rw [h1,h2] at ho
  cases ho
 rw [cell_same (World.putObj_heap_other hne)]
 exact hc
theorem SimH.putObj {heap:AId → Option AObj} (h:SimH D m ok heap w) {l:Nat} {o o':Obj} (hl:w.heap[l]? = some o) (ho:o.isCells = false) (hm : ∀ id t,m id ≠ some (.at l t)) (hg : ∀ x ∈ Gs,x.1 ≠ l):SimH D m ok heap (w.putObj l o') :=
 h.other (fun _ _ hc=>putObj_cell hl ho hc) (by rw [World.putObj_size]; exact Nat.le_refl _) (fun id b t e=>World.putObj_heap_other fun e2=>hm id t (by rw [← e2]; exact e)) fun x hx=>World.putObj_heap_other (hg x hx)
theorem Step.putObj {m':AId → Option Blk} {l:Nat} (h:Step m w m' w') (hl:w.heap.size ≤ l) (o:Obj):Step m w m' (w'.putObj l o) :=
 ⟨h.os,h.tape,h.output,by rw [World.putObj_size]; exact h.size,fun b hb hn=>(World.putObj_heap_other (by omega)).trans (h.keep b hb hn),h.own⟩
theorem Step.avoid {m':AId → Option Blk} {b:Nat} (h:Step m w m' w') (hb:b < w.heap.size) (hn : ∀ id t,m id ≠ some (.at b t)) : ∀ id t,m' id ≠ some (.at b t):=by
 intro id t e
 rcases h.own id b t e with ⟨i,t0,h0⟩ | hge
 ·exact hn i t0 h0
 ·omega
end
structure Keeps (A:Nat → Prop) (w w':World):Prop where
 blk : ∀ b,A b → w'.heap[b]? = w.heap[b]?
 size:w.heap.size ≤ w'.heap.size
 gs : ∀ x ∈ Gs,∃ o,w'.heap[x.1]? = some o ∧ x.2 o
def IterOk (P:Program) (gf:FuncId) (caps xs:List PVal):Prop :=
 Enters P gf ∧ ∀ (A:Nat → Prop) (w:World) (lb:List Value),(∀ b,A b → b < w.heap.size) → (∀ x ∈ Gs,∃ o,w.heap[x.1]? = some o ∧ x.2 o) → Reps w A (fun _=>False) (fun _=>none) false caps lb →
  ∀ (l:Nat) (J:Nat → (Nat → Prop) → World → Prop),
   (∀ (k:Nat) (x:PVal) (B:Nat → Prop) (Wp W:World) (v:Value),xs[k]? = some x → J k B Wp → Ext Wp W → Rep W (fun b=>B b ∨ Wp.heap.size ≤ b) (fun _=>False) (fun _=>none) false x v →
    YieldAt Fence.wide 0 P l #[v] W fun e W'=>e = .returned (.bool true) ∧ J (k + 1) (fun b=>(B b ∨ Wp.heap.size ≤ b) ∧ b < W.heap.size) W' ∧ Keeps (fun b=>(B b ∨ Wp.heap.size ≤ b) ∧ b < W.heap.size) W W') →
   J 0 A w →
   CallsIn Fence.wide 0 P gf (#[.func (.yield l) #[] #[]] ++ lb.toArray) w fun e W'=>∃ v B Wp,e = .returned v ∧ J xs.length B Wp ∧ Ext Wp W'
abbrev markD (D:Nat):Deferred:={ target:=.collected D,args:=#[] }
theorem range_wp {P:Program} {n:Nat} {tg p:Nat} {assign body:Code} {aca acb:AC} {st:St} {m:AId → Option Blk} {ok:Nat → Prop} {a:Act} {w:World} {gf:FuncId} {caps xs:List PVal} {Q:Exit → Act → World → Prop}
  (hS:Sim n [] (· < st.next) m ok st.e st.h a w) (hg:st.env.lookup tg = some (.fn gf [] caps)) (hcl:PVal.closed.go caps = true) (hI:IterOk P gf caps xs) (hac:transC P assign = some aca) (hbc:transC P body = some acb) (hp:p < n)
  (I:Nat → List (AId × AObj) → Nat → Prop) (h0:I 0 st.heap st.next) (hle : ∀ k h nx,I k h nx → st.next ≤ nx)
  (hround : ∀ k h nx x,I k h nx → xs[k]? = some x → W P n st.next aca (AThen (W P n st.next acb (fun e s=>e = .normal ∧ I (k + 1) s.heap s.next)) (fun _ _=>False)) { env:=(p,x) :: st.env,heap:=h,next:=nx })
  (hQ : ∀ h nx (m':AId → Option Blk) (W:World) (D:Nat),I xs.length h nx → Sim n [markD D] (· < nx) m' ok st.e (fun i=>h.lookup i) { a with defers:=[markD D] } W → Step m w m' W → Mon (· < st.next) m m' → w.heap.size ≤ D → W.heap[D]? = some (.deferred (some [])) → (∀ id t,m' id ≠ some (.at D t)) → Q .normal { a with defers:=[markD D] } W) :
  (Code.rangeFunc (.tmp tg) #[p] assign body).wpIn Fence.wide 0 P Q a w:=by
 refine wpIn_rangeFunc fun fn _=>?_
 obtain ⟨hE,hIt⟩:=hI
 obtain ⟨v,hv,hrep⟩:=hS.tmp tg _ hg
 have hev:a.eval (.tmp tg) = v:=by
  show a.tmps.getD tg undef = v
  simp only [Array.getD_eq_getD_getElem?,hv,Option.getD_some]
 cases hrep with
 | fn hl1 hl2 r1 r2 =>
  rename_i fv cv
  obtain rfl:fv = []:=List.eq_nil_of_length_eq_zero hl1.symm
  obtain ⟨rec,hrec⟩ : ∃ rec:LoopState → Loop,rec = fun st=>{ state:=st,pending:=none,fn,tmps:=a.tmps,params:=#[p],assign,body,defers:=w.heap.size }:=⟨_,rfl⟩
  obtain ⟨W1,hW1⟩ : ∃ W1,(w.alloc (.deferred (some []))).alloc (.loop (rec .ready)) = W1:=⟨_,rfl⟩
  have hx1:Ext w W1:=by rw [← hW1]; exact (Ext.alloc w _).trans (Ext.alloc _ _)
  have hsz1:W1.heap.size = w.heap.size + 2:=by rw [← hW1,World.size_alloc,World.size_alloc]
  have hL1:W1.heap[w.heap.size + 1]? = some (.loop (rec .ready)):=by
   rw [← hW1]; have:=World.alloc_heap_new (w.alloc (.deferred (some []))) (.loop (rec .ready)); rwa [World.size_alloc] at this
  have hK1:W1.heap[w.heap.size]? = some (.deferred (some [])):=by
   rw [← hW1]; exact (Ext.alloc _ _).at (World.alloc_heap_new w _)
  have hgs : ∀ x ∈ Gs,x.1 < w.heap.size:=fun x hx=>by
   obtain ⟨_,o,h2,_⟩:=hS.hp.glob x hx
   exact (Array.getElem?_eq_some_iff.1 h2).1
  have hgl : ∀ x ∈ Gs,x.1 ≠ w.heap.size + 1:=fun x hx=>by have:=hgs x hx; omega
  refine ⟨w.heap.size + 1,[markD w.heap.size],W1,{ target:=.fn (.func gf) cv.toArray,args:=#[.func (.yield (w.heap.size + 1)) #[] #[]] },W1,gf,
   #[.func (.yield (w.heap.size + 1)) #[] #[]] ++ cv.toArray,W1,?_,?_,fun _ _=>trivial,?_,fun h=>by simp [Fence.wide] at h,?_⟩
  ·rw [← hW1,hrec]; exact run_enterLoop_outer _ _ _ _ _
  ·simp only [resolve,hev]
   simp [go_sem]
  ·have eg : ∀ args w,(callFunc gf args).run P w = .ok (.enter gf args) w:=hE
   simp [invoke,go_sem,eg]
  ·
   let J:Nat → (Nat → Prop) → World → Prop:=fun k B W=>∃ (h:List (AId × AObj)) (nx:Nat) (m':AId → Option Blk),I k h nx ∧ SimH (· < nx) m' ok (fun i=>h.lookup i) W ∧ Step m w m' W ∧ Mon (· < st.next) m m' ∧
    W.heap[w.heap.size + 1]? = some (.loop (rec .ready)) ∧ W.heap[w.heap.size]? = some (.deferred (some [])) ∧ (∀ id t,m' id ≠ some (.at (w.heap.size + 1) t)) ∧ (∀ id t,m' id ≠ some (.at w.heap.size t)) ∧ (∀ b,B b → b < W.heap.size ∧ b ≠ w.heap.size + 1 ∧ okn ok m' b)
   refine (hIt (fun b=>okn ok m b ∧ b < w.heap.size) W1 cv (fun b hb=>by omega) (fun x hx=>?_) ⟨hl2,fun i q u hq hu=>?_⟩ (w.heap.size + 1) J ?_ ?_).mono ?_
   ·obtain ⟨_,o,h2,h3⟩:=hS.hp.glob x hx
    exact ⟨o,hx1.at h2,h3⟩
   ·refine Rep.mono ((r2 i q u hq hu).close (PVal.closed_go hcl i q hq)) (fun a u _ hc=>hx1.cell hc) (fun b hb hlt=>⟨hb,hlt⟩) (fun h=>by cases h) (fun _ h=>by cases h) (fun _ h=>by cases h)
   ·
    rintro k x B Wp W v hxk ⟨h,nx,m',hIk,hH,hst,hM,hl,hk,hnl,hnk,hBk⟩ hext hrv
    have hszl:w.heap.size + 1 < Wp.heap.size:=(Array.getElem?_eq_some_iff.1 hl).1
    have hHW:=hH.ext hext
    have hstW:Step m w m' W:=hst.trans (hext.step m')
    have hlW:=hext.at hl
    have hkW:=hext.at hk
    have hltW:w.heap.size + 1 < W.heap.size:=(Array.getElem?_eq_some_iff.1 hlW).1
    have hy:=run_yield (P:=P) (args:=#[v]) hlW (by rw [hrec]; rfl)
    rw [hrec] at hy
    refine ⟨fn,_,assign,body,hy,roundIn_of_wpIn trivial ?_⟩
    have hokn : ∀ b,(B b ∨ Wp.heap.size ≤ b) → b < W.heap.size → okn ok m' b:=by
     rintro b (hb | hb) _
     ·exact (hBk b hb).2.2
     ·exact ⟨hH.fresh b hb,fun id t e=>by have:=hH.lt id b t e; omega⟩
    have hSx:Sim n [] (· < nx) m' ok (St.e ⟨(p,x) :: st.env,h,nx⟩) (St.h ⟨(p,x) :: st.env,h,nx⟩) { tmps:=(#[p].zip #[v]).foldl (fun t (q,u)=>t.setIfInBounds q u) a.tmps,defers:=[] } W:=by
     have hfold:(#[p].zip #[v]).foldl (fun t (q,u)=>t.setIfInBounds q u) a.tmps = a.tmps.setIfInBounds p v:=by simp
     rw [hfold]
     refine ⟨hHW,fun t q hq=>?_,rfl,by simpa using hS.sz⟩
     by_cases ht:t = p
     ·subst ht
      have:q = x:=by simpa [St.e,List.lookup] using hq.symm
      subst this
      refine ⟨v,by simp [hS.sz,hp],hrv.mono (fun _ _ _ hc=>hc) hokn (fun h=>h) (fun _ _ _ h=>h.elim) (fun _ _ _ h=>h.elim)⟩
     ·have hq':st.env.lookup t = some q:=by
       have:(t == p) = false:=by simpa using ht
       simpa [St.e,List.lookup,this] using hq
      obtain ⟨u,g1,g2⟩:=hS.tmp t q hq'
      refine ⟨u,?_,g2.step hstW (fun id hid=>Nat.lt_of_lt_of_le hid (hle k h nx hIk)) hM⟩
      rw [Array.getElem?_setIfInBounds_ne (fun e=>ht e.symm)]
      exact g1
    have hwp:=hround k h nx x hIk hxk assign hac (some (w.heap.size + 1)) [] m' ok _ W (hle k h nx hIk) hSx
    refine wpIn_mono hwp ?_
    rintro e a1 w1 ⟨st1,m1,hp1⟩
    cases e with
    | normal =>
     have hl1:w1.heap[w.heap.size + 1]? = some (.loop (rec .ready)):=(hp1.step.keep _ hltW hnl).trans hlW
     have hk1:w1.heap[w.heap.size]? = some (.deferred (some [])):=(hp1.step.keep _ (by omega) hnk).trans hkW
     have hnl1:=hp1.step.avoid hltW hnl
     have hnk1:=hp1.step.avoid (by omega) hnk
     have hsz1':=hp1.step.size
     refine ⟨_,run_beginRound hl1 (by rw [hrec]),?_⟩
     have hH2:=hp1.sim.hp.putObj (o':=.loop { rec .ready with state:=.busy }) hl1 rfl hnl1 hgl
     have hS2:Sim n [] (· < st1.next) m1 ok st1.e st1.h a1 (w1.putObj (w.heap.size + 1) (.loop { rec .ready with state:=.busy })):=by
      refine ⟨hH2,fun t q hq=>?_,hp1.sim.df,hp1.sim.sz⟩
      obtain ⟨u,g1,g2⟩:=hp1.sim.tmp t q hq
      exact ⟨u,g1,g2.other fun _ _ hc=>putObj_cell hl1 rfl hc⟩
     refine wpIn_mono (hp1.q body hbc (some (w.heap.size + 1)) [] m1 ok a1 _ hp1.le hS2) ?_
     rintro e2 a3 w3 ⟨st3,m3,hp3⟩
     obtain ⟨rfl,hI3⟩:=hp3.q
     have hlt2:w.heap.size + 1 < (w1.putObj (w.heap.size + 1) (.loop { rec .ready with state:=.busy })).heap.size:=by rw [World.putObj_size]; omega
     have hl3:w3.heap[w.heap.size + 1]? = some (.loop { rec .ready with state:=.busy }):=(hp3.step.keep _ hlt2 hnl1).trans (World.putObj_heap_same (by omega))
     have hk3:w3.heap[w.heap.size]? = some (.deferred (some [])):=(hp3.step.keep _ (Nat.lt_of_succ_lt hlt2) hnk1).trans ((World.putObj_heap_other (by omega)).trans hk1)
     have hnl3:=hp3.step.avoid hlt2 hnl1
     have hnk3:=hp3.step.avoid (Nat.lt_of_succ_lt hlt2) hnk1
     have hend:=run_endRound (P:=P) none hl3
     have hlb : ∀ b,(B b ∨ Wp.heap.size ≤ b) → b ≠ w.heap.size + 1:=by
      rintro b (hb | hb)
      ·exact (hBk b hb).2.1
      ·omega
     have hsz3:w1.heap.size ≤ w3.heap.size:=by
      have:=hp3.step.size
      rw [World.putObj_size] at this
      exact this
     refine ⟨_,_,hend,rfl,⟨st3.heap,st3.next,m3,hI3,?_,?_,?_,?_,?_,hnl3,hnk3,?_⟩,?_,?_,?_⟩
     ·exact hp3.sim.hp.putObj hl3 rfl hnl3 hgl
     ·exact (((hstW.trans hp1.step).putObj (by omega) _).trans hp3.step).putObj (by omega) _
     ·exact ((hM.trans hp1.mon fun _ h=>h).trans hp3.mon fun _ h=>h)
     ·have hlt3:w.heap.size + 1 < w3.heap.size:=(Array.getElem?_eq_some_iff.1 hl3).1
      rw [World.putObj_heap_same hlt3,hrec]
      rfl
     ·exact (World.putObj_heap_other (by omega)).trans hk3
     ·rintro b ⟨hb,hlt⟩
      have hn':=hokn b hb hlt
      have hn1:=hp1.step.avoid hlt hn'.2
      exact ⟨by rw [World.putObj_size]; omega,hlb b hb,hn'.1,hp3.step.avoid (by rw [World.putObj_size]; omega) hn1⟩
     ·rintro b ⟨hb,hlt⟩
      have hn':=hokn b hb hlt
      have hn1:=hp1.step.avoid hlt hn'.2
      have hbl:=hlb b hb
      rw [World.putObj_heap_other hbl,hp3.step.keep b (by rw [World.putObj_size]; omega) hn1,World.putObj_heap_other hbl,hp1.step.keep b hlt hn'.2]
     ·rw [World.putObj_size]
      omega
     ·intro y hy
      obtain ⟨_,o,h2,h3⟩:=hp3.sim.hp.glob y hy
      exact ⟨o,(World.putObj_heap_other (hgl y hy)).trans h2,h3⟩
    | exit id=>exact hp1.q.elim
    | goto id=>exact hp1.q.elim
    | ret=>exact hp1.q.elim
    | panic c=>exact hp1.q.elim
    | outgrown=>exact hp1.q.elim
   ·refine ⟨st.heap,st.next,m,h0,hS.hp.ext hx1,hx1.step m,Mon.refl _ m,hL1,hK1,fun id t e=>?_,fun id t e=>?_,fun b hb=>⟨by omega,by omega,hb.1⟩⟩
    ·have:=hS.hp.lt id _ t e; omega
    ·have:=hS.hp.lt id _ t e; omega
   ·
    rintro e W2 ⟨u,B,Wp,rfl,⟨h,nx,m',hIk,hH,hst,hM,hl,hk,hnl,hnk,_⟩,hext⟩
    have hl2':=hext.at hl
    refine ⟨none,_,by have:=run_endLoop (P:=P) hl2' (by rw [hrec]; simp); rw [hrec] at this; exact this,?_⟩
    have hst2:Step m w m' (W2.putObj (w.heap.size + 1) (.loop { rec .ready with state:=.exhausted })):=(hst.trans (hext.step m')).putObj (by omega) _
    have hH2:=(hH.ext hext).putObj (o':=.loop { rec .ready with state:=.exhausted }) hl2' rfl hnl hgl
    rw [hrec] at hst2 hH2
    have hds:({ a with defers:=[markD w.heap.size] ++ a.defers }:Act) = { a with defers:=[markD w.heap.size] }:=by rw [hS.df]; rfl
    show Q .normal { a with defers:=[markD w.heap.size] ++ a.defers } _
    rw [hds]
    refine hQ h nx m' _ w.heap.size hIk ⟨hH2,fun t q hq=>?_,rfl,hS.sz⟩ hst2 hM (Nat.le_refl _) ((World.putObj_heap_other (by omega)).trans (hext.at hk)) hnk
    obtain ⟨u',g1,g2⟩:=hS.tmp t q hq
    exact ⟨u',g1,g2.step hst2 (fun id hid=>Nat.lt_of_lt_of_le hid (hle _ h nx hIk)) hM⟩
theorem FnOk.of_marks {P:Program} {f:FuncId} {fn:Func} {c:Code} {ts:List RV} {ps:List PVal} {h0:List (AId × AObj)} {k0:Nat} {r:PVal} {h1:List (AId × AObj)} {k1:Nat}
  (hf:P.funcs[f]? = some fn) (hname:(fn.name == "runtime.NumGoroutine") = false) (hb:fn.body = some c) (hts:resVars P fn.results.toList = some ts) (hn:ps.length ≤ fn.ntmps) (hk:k0 ≤ k1)
  (hW : ∀ (m:AId → Option Blk) (ok:Nat → Prop) (a:Act) (w:World),Sim fn.ntmps [] (· < k0) m ok (St.e ⟨paramE 0 ps,h0,k0⟩) (St.h ⟨paramE 0 ps,h0,k0⟩) a w →
   c.wpIn Fence.wide 0 P (fun e a' w'=>∃ (st':St) (m':AId → Option Blk) (D:Nat),Post fn.ntmps [markD D] k0 m ok w (RetQ k0 ts r h1 k1) e a' w' st' m' ∧ w.heap.size ≤ D ∧ w'.heap[D]? = some (.deferred (some [])) ∧ ∀ id t,m' id ≠ some (.at D t)) a w):FnOk P f ps h0 k0 r h1 k1:=by
 refine ⟨enters_of hf hname hb,hk,fun m ok w vs hH hr=>(callsIn_wide (n:=0)).1 <| callsIn_of_wp_marks (F:=Fence.wide) hf hb trivial (wpIn_mono (hW m ok _ w ⟨hH,fun t p hp=>?_,rfl,?_⟩) ?_)⟩
 ·obtain ⟨j,rfl,hj⟩:=paramE_get hp
  have hlt:j < vs.length:=by rw [← hr.1]; exact (List.getElem?_eq_some_iff.1 hj).1
  refine ⟨vs[j],?_,hr.2 j p _ hj (List.getElem?_eq_getElem hlt)⟩
  rw [Nat.zero_add,Array.getElem?_append_left (by simpa using hlt)]
  simp [hlt]
 ·have:=hr.1
  simp; omega
 ·rintro e a' w0 ⟨st',m',D,hp0,hD,hDk,hDm⟩
  obtain ⟨w',hw'⟩ : ∃ w',w0.putObj D (.deferred none) = w':=⟨_,rfl⟩
  have hgD : ∀ x ∈ Gs,x.1 ≠ D:=fun x hx=>by
   obtain ⟨_,o,h2,_⟩:=hH.glob x hx
   have:=(Array.getElem?_eq_some_iff.1 h2).1
   omega
  have hsim:Sim fn.ntmps [markD D] (· < st'.next) m' ok st'.e st'.h a' w':=by
   rw [← hw']
   refine ⟨hp0.sim.hp.putObj hDk rfl hDm hgD,fun t q hq=>?_,hp0.sim.df,hp0.sim.sz⟩
   obtain ⟨u,g1,g2⟩:=hp0.sim.tmp t q hq
   exact ⟨u,g1,g2.other fun _ _ hc=>putObj_cell hDk rfl hc⟩
  have hp:Post fn.ntmps [markD D] k0 m ok w (RetQ k0 ts r h1 k1) e a' w' st' m':=⟨hp0.q,hsim,by rw [← hw']; exact hp0.step.putObj hD _,hp0.mon,hp0.le⟩
  obtain ⟨he,qs0,st2,qs,hq0,hcv,hq,hre,hh,hnx⟩:=hp.q
  obtain ⟨vs0,hr0,hrun⟩:=run_results (P:=P) hp.sim hts hq0
  have hS1:Sim vs0.length [markD D] (· < st'.next) m' ok (St.e ⟨paramE 0 qs0,st'.heap,st'.next⟩) (St.h ⟨paramE 0 qs0,st'.heap,st'.next⟩) { a' with tmps:=vs0.toArray } w':=by
   refine ⟨hp.sim.hp,fun t p hp'=>?_,hp.sim.df,by simp⟩
   obtain ⟨j,rfl,hj⟩:=paramE_get hp'
   have hlt:j < vs0.length:=by rw [← hr0.1]; exact (List.getElem?_eq_some_iff.1 hj).1
   refine ⟨vs0[j],?_,hr0.2 j p _ hj (List.getElem?_eq_getElem hlt)⟩
   rw [Nat.zero_add]
   simp [hlt]
  obtain ⟨m2,hS2,hst2,hM2,_⟩:=hcv _ [markD D] m' ok _ w' hp.le hS1
  have hreps:=evalTs_rep hS2 hq
  have hlen0:=hr0.1
  have hvs:(List.range qs0.length).map (fun t=>vs0.toArray.getD t undef) = vs0:=by
   apply List.ext_getElem?
   intro i
   rw [List.getElem?_map]
   by_cases hi:i < qs0.length
   ·rw [List.getElem?_range hi]
    have:i < vs0.length:=by omega
    simp [this]
   ·rw [List.getElem?_eq_none (by simpa using hi),List.getElem?_eq_none (by omega)]
    rfl
  rw [hvs] at hreps
  have key : ∃ v,(results fn a'.tmps).run P w' = .ok v w' ∧ ∃ (v':Value) (m':AId → Option Blk),Ending.returned v = .returned v' ∧ SimH (· < k1) m' ok (fun i=>h1.lookup i) w' ∧ Rep w' (okn ok m') (· < k1) m' false r v' ∧ Step m w m' w' ∧ Mon (· < k0) m m':=by
   refine ⟨_,hrun,_,m2,rfl,?_,?_,hp.step.trans hst2,hp.mon.trans hM2 fun _ h=>h⟩
   ·rw [← hnx,← hh]; exact hS2.hp
   ·rw [hnx] at hreps
    have hlen:=hreps.1
    refine Rep.weak ?_ hre
    cases vs0 with
    | nil =>
     obtain rfl:=List.eq_nil_of_length_eq_zero hlen
     exact Rep.tup (cs:=[]) (vs:=[]) rfl (fun i p v h=>by simp at h)
    | cons v vs' =>
     cases qs with
     | nil=>simp at hlen
     | cons q qs' =>
      cases vs' with
      | nil =>
       obtain rfl:qs' = []:=List.eq_nil_of_length_eq_zero (by simpa using hlen)
       have:=hreps.head
       simpa [retV] using this
      | cons v' vs'' =>
       cases qs' with
       | nil=>simp at hlen
       | cons q' qs'' =>
        rw [dif_neg (by simp)]
        exact Rep.tup hreps.1 hreps.2
  have fin:LeavesInM Fence.wide 0 P fn a'.tmps (fun e w'=>∃ (v:Value) (m':AId → Option Blk),e = .returned v ∧ SimH (· < k1) m' ok (fun i=>h1.lookup i) w' ∧ Rep w' (okn ok m') (· < k1) m' false r v ∧ Step m w m' w' ∧ Mon (· < k0) m m') a'.defers .returning w0:=by
   rw [hp0.sim.df]
   exact ⟨by simp,.inl ⟨D,w',rfl,by rw [← hw']; exact run_takeDeferred hDk,key⟩⟩
  rcases he with rfl | rfl
  ·exact fin
  ·exact fin
end Go.Proofs.YtmfggjebbhdejaaGreat.Abs
