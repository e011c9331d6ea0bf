/- Iterators: functions that call what they are handed, walked as code. Generic over any program. -/
import Derived.Test.YtmfggjebbhdejaaGreatA32
import Derived.Test.YtmfggjebbhdejaaGreatA29
import Derived.Sort.LoopGhostIn
set_option linter.unusedVariables false
set_option linter.unusedSimpArgs false
namespace Go.Proofs.YtmfggjebbhdejaaGreat.Abs
open Go
theorem transC_seq {P:Program} {c:Code} {x y:AC} (h:transC P c = some (.seq x y)) : ∃ c1 c2,c = .seq c1 c2 ∧ transC P c1 = some x ∧ transC P c2 = some y:=by
 cases c <;> simp only [transC] at h
 case seq c1 c2 =>
  split at h
  ·rename_i x' y' h1 h2
   injection h with h
   injection h with e1 e2
   subst e1 e2
   exact ⟨c1,c2,rfl,h1,h2⟩
  ·cases h
 all_goals first | cases h | (simp [Option.map_eq_some_iff] at h; done) | (split at h <;> first | cases h | (injection h with h; cases h))
theorem transC_cond {P:Program} {c:Code} {z:AX} {x y:AC} (h:transC P c = some (.cond z x y)) : ∃ c0 c1 c2,c = .cond c0 c1 c2 ∧ ofOp c0 = z ∧ transC P c1 = some x ∧ transC P c2 = some y:=by
 cases c <;> simp only [transC] at h
 case cond c0 c1 c2 =>
  split at h
  ·rename_i x' y' h1 h2
   injection h with h
   injection h with e0 e1 e2
   subst e0 e1 e2
   exact ⟨c0,c1,c2,rfl,rfl,h1,h2⟩
  ·cases h
 all_goals first | cases h | (simp [Option.map_eq_some_iff] at h; done) | (split at h <;> first | cases h | (injection h with h; cases h))
theorem transC_block {P:Program} {c:Code} {id:Nat} {x:AC} (h:transC P c = some (.block id x)) : ∃ c1,c = .block id c1 ∧ transC P c1 = some x:=by
 cases c <;> simp only [transC] at h
 case block id' c1 =>
  obtain ⟨x',h1,he⟩:=Option.map_eq_some_iff.1 h
  injection he with e1 e2
  subst e1 e2
  exact ⟨c1,rfl,h1⟩
 all_goals first | cases h | (simp [Option.map_eq_some_iff] at h; done) | (split at h <;> first | cases h | (injection h with h; cases h))
theorem transC_loop {P:Program} {c:Code} {x:AC} (h:transC P c = some (.loop x)) : ∃ c1,c = .loop c1 ∧ transC P c1 = some x:=by
 cases c <;> simp only [transC] at h
 case loop c1 =>
  obtain ⟨x',h1,he⟩:=Option.map_eq_some_iff.1 h
  injection he with e1
  subst e1
  exact ⟨c1,rfl,h1⟩
 all_goals first | cases h | (simp [Option.map_eq_some_iff] at h; done) | (split at h <;> first | cases h | (injection h with h; cases h))
theorem transOpers_at {P:Program} {ops:Array Oper} : ∀ {l:List Oper} {aos:List AO} {i:Nat} {o:Oper},transOpers P ops l = some aos → l[i]? = some o → ∃ ao,aos[i]? = some ao ∧ transOper P ops o = some ao
 | [],aos,i,o,h,ho=>by simp at ho
 | x :: r,aos,i,o,h,ho=>by
  simp only [transOpers] at h
  split at h
  ·rename_i a l h1 h2
   injection h with h
   subst h
   cases i with
   | zero=>simp at ho; subst ho; exact ⟨a,rfl,h1⟩
   | succ i =>
    obtain ⟨ao,g1,g2⟩:=transOpers_at h2 (by simpa using ho)
    exact ⟨ao,by simpa using g1,g2⟩
  ·cases h
theorem transOpers_len {P:Program} {ops:Array Oper} : ∀ {l:List Oper} {aos:List AO},transOpers P ops l = some aos → aos.length = l.length
 | [],aos,h=>by simp [transOpers] at h; simp [h]
 | x :: r,aos,h=>by
  simp only [transOpers] at h
  split at h
  ·rename_i a l h1 h2
   injection h with h
   subst h
   simp [transOpers_len h2]
  ·cases h
section
variable {P:Program} {n l:Nat} {xs:List PVal} {J:Nat → (Nat → Prop) → World → Prop}
def YieldOk (P:Program) (l:Nat) (xs:List PVal) (J:Nat → (Nat → Prop) → World → Prop):Prop :=
 ∀ (k:Nat) (x:PVal) (B:Nat → Prop) (Wp W:World) (v:Value),xs[k]? = some x → J k B Wp → Ext Wp W → Rep W (fun b=>B b ∨ Wp.heap.size ≤ b) (fun _=>False) (fun _=>none) false x v →
  YieldAt Fence.wide 0 P l #[v] W fun e W'=>e = .returned (.bool true) ∧ J (k + 1) (fun b=>(B b ∨ Wp.heap.size ≤ b) ∧ b < W.heap.size) W' ∧ Keeps (fun b=>(B b ∨ Wp.heap.size ≤ b) ∧ b < W.heap.size) W W'
def IInv (n:Nat) (J:Nat → (Nat → Prop) → World → Prop) (k:Nat) (st:St) (a:Act) (w:World):Prop :=
 ∃ (B:Nat → Prop) (Wp:World) (m:AId → Option Blk),J k B Wp ∧ Sim n [] (· < st.next) m (fun b=>B b ∨ Wp.heap.size ≤ b) st.e st.h a w ∧ Step (fun _=>none) Wp m w
def IW (P:Program) (n:Nat) (J:Nat → (Nat → Prop) → World → Prop) (ac:AC) (Q:Exit → Nat → St → Prop) (k:Nat) (st:St):Prop :=
 ∀ c,transC P c = some ac → ∀ (a:Act) (w:World),IInv n J k st a w → c.wpIn Fence.wide 0 P (fun e a' w'=>∃ k' st',Q e k' st' ∧ IInv n J k' st' a' w') a w
theorem IW.of {ac:AC} {Q:Exit → Nat → St → Prop} {k:Nat} {st:St} (h:W P n 0 ac (fun e s=>Q e k s) st):IW P n J ac Q k st:=by
 rintro c hc a w ⟨B,Wp,m,hJ,hS,hst⟩
 refine wpIn_mono (h c hc none [] m _ a w (Nat.zero_le _) hS) ?_
 rintro e a' w' ⟨st',m',hp⟩
 exact ⟨k,st',hp.q,B,Wp,m',hJ,hp.sim,hst.trans hp.step⟩
theorem IW.mono {ac:AC} {Q Q':Exit → Nat → St → Prop} {k:Nat} {st:St} (h:IW P n J ac Q k st) (hq : ∀ e k s,Q e k s → Q' e k s):IW P n J ac Q' k st:=by
 intro c hc a w hI
 refine wpIn_mono (h c hc a w hI) ?_
 rintro e a' w' ⟨k',st',h1,h2⟩
 exact ⟨k',st',hq _ _ _ h1,h2⟩
def IThen (K:Nat → St → Prop) (Q:Exit → Nat → St → Prop):Exit → Nat → St → Prop
 | .normal,k,s=>K k s
 | e,k,s=>Q e k s
def IBlk (id:Nat) (Q:Exit → Nat → St → Prop):Exit → Nat → St → Prop
 | .exit i,k,s=>if i = id then Q .normal k s else Q (.exit i) k s
 | e,k,s=>Q e k s
theorem IW.seq {x y:AC} {Q:Exit → Nat → St → Prop} {k:Nat} {st:St} (h:IW P n J x (IThen (IW P n J y Q) Q) k st):IW P n J (.seq x y) Q k st:=by
 intro c hc a w hI
 obtain ⟨c1,c2,rfl,h1,h2⟩:=transC_seq hc
 refine wpIn_seq (wpIn_mono (h c1 h1 a w hI) ?_)
 rintro e a' w' ⟨k',st',hq,hI'⟩
 cases e with
 | normal=>exact hq c2 h2 a' w' hI'
 | exit id=>exact ⟨k',st',hq,hI'⟩
 | goto id=>exact ⟨k',st',hq,hI'⟩
 | ret=>exact ⟨k',st',hq,hI'⟩
 | panic id=>exact ⟨k',st',hq,hI'⟩
 | outgrown=>exact ⟨k',st',hq,hI'⟩
theorem IW.block {id:Nat} {x:AC} {Q:Exit → Nat → St → Prop} {k:Nat} {st:St} (h:IW P n J x (IBlk id Q) k st):IW P n J (.block id x) Q k st:=by
 intro c hc a w hI
 obtain ⟨c1,rfl,h1⟩:=transC_block hc
 refine wpIn_block (wpIn_mono (h c1 h1 a w hI) ?_)
 rintro e a' w' ⟨k',st',hq,hI'⟩
 cases e with
 | exit i =>
  simp only [IBlk] at hq
  simp only [Exit.inBlock]
  split
  ·rename_i hi; rw [if_pos hi] at hq; exact ⟨k',st',hq,hI'⟩
  ·rename_i hi; rw [if_neg hi] at hq; exact ⟨k',st',hq,hI'⟩
 | normal=>exact ⟨k',st',hq,hI'⟩
 | goto id=>exact ⟨k',st',hq,hI'⟩
 | ret=>exact ⟨k',st',hq,hI'⟩
 | panic id=>exact ⟨k',st',hq,hI'⟩
 | outgrown=>exact ⟨k',st',hq,hI'⟩
theorem IW.loop {x:AC} {Q:Exit → Nat → St → Prop} {k:Nat} {st:St} (I:Nat → Nat → St → Prop) (f:Nat) (h0:I f k st) (round : ∀ f k s,I f k s → IW P n J x (IThen (fun k' s'=>∃ f',f' < f ∧ I f' k' s') Q) k s):IW P n J (.loop x) Q k st:=by
 intro c hc a w hI
 obtain ⟨c1,rfl,h1⟩:=transC_loop hc
 refine wpIn_loop_ghost (fun f a' w'=>∃ k' st',I f k' st' ∧ IInv n J k' st' a' w') f ⟨k,st,h0,hI⟩ ?_
 rintro f a' w' ⟨k',st',hi,hI'⟩
 refine wpIn_mono (round f k' st' hi c1 h1 a' w' hI') ?_
 rintro e a2 w2 ⟨k2,st2,hq,hI2⟩
 cases e with
 | normal =>
  obtain ⟨f',hlt,hi'⟩:=hq
  exact ⟨f',hlt,k2,st2,hi',hI2⟩
 | exit id=>exact ⟨k2,st2,hq,hI2⟩
 | goto id=>exact ⟨k2,st2,hq,hI2⟩
 | ret=>exact ⟨k2,st2,hq,hI2⟩
 | panic id=>exact ⟨k2,st2,hq,hI2⟩
 | outgrown=>exact ⟨k2,st2,hq,hI2⟩
theorem IW.cond {z:AX} {x y:AC} {b:Bool} {Q:Exit → Nat → St → Prop} {k:Nat} {st:St} (hz:evalX st.env z = some (.bool b)) (ht:b = true → IW P n J x Q k st) (hf:b = false → IW P n J y Q k st):IW P n J (.cond z x y) Q k st:=by
 intro c hc a w hI
 obtain ⟨c0,c1,c2,rfl,rfl,h1,h2⟩:=transC_cond hc
 obtain ⟨B,Wp,m,hJ,hS,hst⟩:=hI
 have hv:=evalX_repT (P:=P) hS hz fun t _=>rfl
 exact wpIn_cond_split (rep_bool hv) (fun h=>ht h c1 h1 a w ⟨B,Wp,m,hJ,hS,hst⟩) (fun h=>hf h c2 h2 a w ⟨B,Wp,m,hJ,hS,hst⟩)
theorem lt_split (i n j:Nat):(i < n ∨ (n ≤ i ∧ i < n + j)) ↔ i < n + j:=by omega
theorem op_step {ops:Array Oper} {i:Nat} {ao:AO} {o:Oper} {st:St} {e:Eff} {m:AId → Option Blk} {ok:Nat → Prop} {a:Act} {w:World} {Q:Exit → Act → World → Prop} {K:Act → World → Prop} (ho:ops[i]? = some o) (ht:transOper P ops o = some ao) (he:EffOk P n st ao e)
  (hS:Sim n [] (· < st.next) m ok st.e st.h a w) (hK : ∀ (m':AId → Option Blk) (a':Act) (w':World),Sim n [] (· < (st.app e).next) m' ok (st.app e).e (st.app e).h a' w' → Step m w m' w' → K a' w'):wpOpIn Fence.wide 0 P ops Q i K a w:=by
 have hnext:(st.app e).next = st.next + e.nw.length:=by rfl
 obtain ⟨⟨j,hnw⟩,hop⟩:=he
 have hlen:e.nw.length = j:=by rw [hnw]; simp
 refine hop ops i o ho ht none [] (· < st.next) m ok st.e st.h a w Q K hS (fun _ _=>rfl) (fun _ _=>rfl) (fun id hid h=>?_) (fun D' m' a' w' hS' h1 h2 h3=>?_)
 ·rw [hnw] at hid
  exact absurd h (Nat.not_lt.2 (List.mem_range'_1.1 hid).1)
 ·have hD:D' = (· < (st.app e).next):=funext fun id=>propext ((h3 id).trans (by
   rw [hnext,hnw,List.mem_range'_1]
   simp only [List.length_range']
   exact lt_split id st.next j))
  subst hD
  refine hK m' a' w' ?_ h1
  rw [St.app_e,St.app_h]
  exact hS'
theorem ops_run {ops:Array Oper} {Q:Exit → Act → World → Prop} {r:Nat} {l:List AO} {st st':St} {es:List Eff} (h:Run P n l st es st') : ∀ (i:Nat) (m:AId → Option Blk) (ok:Nat → Prop) (a:Act) (w:World),(∀ j ao,l[j]? = some ao → ∃ o,ops[i + j]? = some o ∧ transOper P ops o = some ao) →
  Sim n [] (· < st.next) m ok st.e st.h a w → (∀ (m':AId → Option Blk) (a':Act) (w':World),Sim n [] (· < st'.next) m' ok st'.e st'.h a' w' → Step m w m' w' → wpOpsIn Fence.wide 0 P ops Q (List.range' (i + l.length) r) a' w') → wpOpsIn Fence.wide 0 P ops Q (List.range' i (l.length + r)) a w:=by
 induction h with
 | nil =>
  intro i m ok a w _ hS hK
  rw [List.length_nil,Nat.zero_add]
  exact hK m a w hS (Step.refl m w)
 | @cons ao l st st' e es he hr ih =>
  intro i m ok a w hop hS hK
  obtain ⟨o,h1,h2⟩:=hop 0 ao rfl
  rw [List.length_cons,show l.length + 1 + r = (l.length + r) + 1 by omega,List.range'_succ,wpOpsIn_cons]
  refine op_step h1 h2 he hS fun m' a' w' hS' hst=>ih (i + 1) m' ok a' w' (fun j ao hj=>?_) hS' fun m2 a2 w2 hS2 hst2=>?_
  ·obtain ⟨o,g1,g2⟩:=hop (j + 1) ao (by simpa using hj)
   exact ⟨o,by rw [show i + 1 + j = i + (j + 1) by omega]; exact g1,g2⟩
  ·have:=hK m2 a2 w2 hS2 (hst.trans hst2)
   rwa [List.length_cons,show i + (l.length + 1) = i + 1 + l.length by omega] at this
theorem IW.regY {pre post:List AO} {ao:AO} {d:Nat} {x:PVal} {st st1 st3:St} {es1 es3:List Eff} {env2:List (Nat × PVal)} {k:Nat} {Q:Exit → Nat → St → Prop} (hY:YieldOk P l xs J) (h1:Run P n pre st es1 st1) (hop:ao.op = .callv) (hd:ao.d = some d) (hdn:d < n)
  (hg:guarded st1.env ao.g = some true) (hx:evalXs st1.env ao.xs = some [.yld l,x]) (hxc:x.closed = true) (hk:xs[k]? = some x)
  (he : ∀ t p,env2.lookup t = some p → (t = d ∧ p = .bool true) ∨ (t ≠ d ∧ st1.env.lookup t = some p ∧ p.closed = true)) (h3:Run P n post { env:=env2,heap:=[],next:=0 } es3 st3) (hQ:Q .normal (k + 1) st3):IW P n J (.reg [] (pre ++ ao :: post)) Q k st:=by
 rintro c hc a w ⟨B,Wp,m,hJ,hS,hst⟩
 cases c <;> simp only [transC] at hc
 case region id ops dr =>
  obtain ⟨l',hl,he'⟩:=Option.map_eq_some_iff.1 hc
  injection he' with he1 he2
  subst he2
  have hlen:=transOpers_len hl
  have hsz0:ops.toList.length = ops.size:=by simp
  rw [List.length_append,List.length_cons,hsz0] at hlen
  cases dr with
  | true =>
   exfalso
   simp only [if_true] at he1
   have:=congrArg List.length he1
   simp [directs] at this
   rw [this] at hlen
   simp at hlen
  | false =>
   have hget : ∀ (i:Nat) (ao':AO),(pre ++ ao :: post)[i]? = some ao' → ∃ o:Oper,ops[i]? = some o ∧ transOper P ops o = some ao':=by
    intro i ao' hi
    have hlt:i < ops.size:=by have:=(List.getElem?_eq_some_iff.1 hi).1; simp at this; omega
    obtain ⟨ao2,g1,g2⟩:=transOpers_at hl (i:=i) (o:=ops[i]) (by simp [hlt])
    rw [hi] at g1
    injection g1 with g1
    subst g1
    exact ⟨ops[i],by simp [hlt],g2⟩
   refine wpIn_region ?_
   rw [List.range_eq_range',show ops.size = pre.length + (post.length + 1) by omega]
   refine ops_run h1 0 m _ a w (fun j ao' hj=>?_) hS fun m1 a1 w1 hS1 hst1=>?_
   ·rw [Nat.zero_add]
    exact hget j ao' (by rw [List.getElem?_append_left (List.getElem?_eq_some_iff.1 hj).1]; exact hj)
   ·rw [Nat.zero_add,List.range'_succ,wpOpsIn_cons]
    obtain ⟨o,ho,ht⟩:=hget pre.length ao (by simp)
    obtain ⟨xs',g1,g2,g3,g4⟩:=transOper_some ht
    have hw:=wanted_of (P:=P) hS1 g2 hg fun t _=>rfl
    have hreps:=evalXs_rep (P:=P) hS1 g3 hx fun t _=>rfl
    have hnb:ao.op ≠ .bad:=by rw [hop]; exact fun h=>by cases h
    unfold wpOpIn
    simp only [ho,hw,if_true]
    unfold Oper.wpIn
    refine ⟨fun _ _=>trivial,?_⟩
    rw [Oper.semAt_eq _ _ _ (transOper_nd ht hnb)]
    rw [hop] at g1
    replace g1:=g1.resolve_right (fun h=>by cases h)
    generalize hoo:o.op = oo at g1
    unfold trans at g1
    split at g1
    all_goals try (first
     | (injection g1 with g1; injection g1 with e1 e2; cases e1; done)
     | cases g1)
    all_goals try (first
     | (obtain ⟨_,_,e1⟩:=Option.map_eq_some_iff.1 g1; injection e1 with e1 e2; cases e1; done)
     | (repeat' split at g1) <;> first
      | cases g1
      | (injection g1 with g1; injection g1 with e1 e2; cases e1; done)
      | (obtain ⟨_,_,e1⟩:=Option.bind_eq_some_iff.1 g1; split at e1 <;> first | (cases e1; done) | (injection e1 with e1; injection e1 with e1 e2; cases e1; done))
      | (obtain ⟨_,_,e1⟩:=Option.map_eq_some_iff.1 g1; injection e1 with e1 e2; cases e1; done))
    rename_i t args ats
    simp only [List.map_cons] at hreps
    have hhd:=hreps.head
    have htl:=hreps.tail
    generalize hfv:a1.eval (.tmp t) = fv at hhd
    cases hhd with
    | yld =>
     obtain ⟨v,vs,ev,r1,hr2⟩:=htl.uncons
     have ev3:=hr2.unnil
     subst ev3
     have hext:Ext Wp w1:=Ext.of (hst.trans hst1)
     have hclosed : ∀ (p:PVal) (u:Value),p.closed = true → Rep w1 (okn (fun b=>B b ∨ Wp.heap.size ≤ b) m1) (· < st1.next) m1 false p u → Rep w1 (fun b=>B b ∨ Wp.heap.size ≤ b) (fun _=>False) (fun _=>none) false p u:=fun p u hp hr =>
      (hr.close hp).mono (fun _ _ _ hc=>hc) (fun b hb _=>hb.1) (fun h=>by cases h) (fun _ h=>by cases h) (fun _ h=>by cases h)
     obtain ⟨fn,tmps,assign,body,hy,hR⟩:=hY k x B Wp w1 v hk hJ hext (hclosed x v hxc r1)
     have hrun:(execOp a1.eval o).run P w1 = (Instr.yield l #[v]).run P w1:=by
      unfold execOp
      simp only [hoo]
      simp only [Act.eval] at hfv
      simp only [resolve,Act.eval,Deferred.ofValue,Sem.run_bind,Sem.run_pure,Result.andThen_ok,invoke,hfv]
      congr 2
      apply Array.ext'
      simpa using ev
     rw [hrun,hy,Oper.uponIn_round]
     refine ⟨fun h=>by simp [Fence.wide] at h,hR.mono ?_⟩
     rintro e W' ⟨rfl,hJ',hK⟩
     have hlt : ∀ (a:Addr) (u:Value),(B a.block ∨ Wp.heap.size ≤ a.block) → w1.cell? a = some u → W'.cell? a = some u:=fun a u hb hc=>by
      rw [cell_same (hK.blk a.block ⟨hb,cell_lt hc⟩)]
      exact hc
     have hS2:Sim n [] (· < 0) (fun _=>none) (fun b=>((B b ∨ Wp.heap.size ≤ b) ∧ b < w1.heap.size) ∨ W'.heap.size ≤ b) (St.e ⟨env2,[],0⟩) (St.h ⟨env2,[],0⟩) (a1.put o.dst (.bool true)) W':=by
      have hdst:o.dst = some d:=by rw [← g4,hd]
      refine ⟨⟨fun id o h=>by simp [St.h] at h,fun id B h=>by simp at h,fun id id' b t t' h=>by simp at h,fun id b t h=>by simp at h,fun id b t h=>by simp at h,fun b h=>.inr h,fun y hy=>⟨fun id t h=>(by cases h),hK.gs y hy⟩⟩,fun t' p hp=>?_,?_,?_⟩
      ·rw [hdst]
       rcases he t' p hp with ⟨rfl,rfl⟩ | ⟨hne,hp',hpc⟩
       ·exact ⟨.bool true,by simp [Act.put,hS1.sz,hdn],.bool⟩
       ·obtain ⟨u,q1,q2⟩:=hS1.tmp t' p hp'
        refine ⟨u,by simp only [Act.put]; rw [Array.getElem?_setIfInBounds_ne (fun e=>hne e.symm)]; exact q1,?_⟩
        exact (hclosed p u hpc q2).mono hlt (fun b hb hbl=>⟨.inl ⟨hb,hbl⟩,fun _ _ h=>by cases h⟩) (fun h=>h) (fun _ _ _ h=>h.elim) (fun _ _ _ h=>h.elim)
      ·rw [hdst]; exact hS1.df
      ·rw [hdst]; simp only [Act.put,Array.size_setIfInBounds]; exact hS1.sz
     have hfin:=ops_run (r:=0) (Q:=fun e a' w'=>∃ k' st',Q e k' st' ∧ IInv n J k' st' a' w') h3 (pre.length + 1) (fun _=>none) _ _ W' (fun j ao' hj=>hget _ ao' (by
      rw [List.getElem?_append_right (by omega),show pre.length + 1 + j - pre.length = j + 1 by omega]
      simpa using hj)) hS2 fun m3 a3 w3 hS3 hst3=>by
       show (∃ k' st',Q .normal k' st' ∧ IInv n J k' st' a3 w3)
       exact ⟨k + 1,st3,hQ,_,W',m3,hJ',hS3,hst3⟩
     exact hfin
 all_goals first | cases hc | (simp [Option.map_eq_some_iff] at hc; done) | (split at hc <;> first | cases hc | (injection hc with hc; cases hc))
theorem IW.len {ac:AC} {Q:Exit → Nat → St → Prop} {k:Nat} {st:St} {t sz:Nat} {es:List (List PVal)} (h:st.env.lookup t = some (.ro sz es)) (hk:es.length ≤ maxLen → IW P n J ac Q k st):IW P n J ac Q k st:=by
 intro c hc a w hI
 obtain ⟨B,Wp,m,hJ,hS,hst⟩:=hI
 obtain ⟨v,hv,hr⟩:=hS.tmp t _ h
 have hl:es.length ≤ maxLen:=by
  cases hr with
  | ro vs hn hcp hml _ _ _ _=>omega
 exact hk hl c hc a w ⟨B,Wp,m,hJ,hS,hst⟩
theorem IW.ofC {ac:AC} {Q:Exit → Nat → St → Prop} {k:Nat} {st:St} (h:W P n 0 ac (fun e s=>∃ s',Conv 0 s s' ∧ Q e k s') st):IW P n J ac Q k st:=IW.of (W.post h)
theorem IW.regG {pre post:List AO} {ao:AO} {d:Nat} {st:St} {k:Nat} {Q:Exit → Nat → St → Prop} (hY:YieldOk P l xs J) (hop:ao.op = .callv) (hd:ao.d = some d) (hdn:Nat.blt d n = true)
  (h:GX P n (fun st1=>∃ (x:PVal) (ts:List Nat) (env2:List (Nat × PVal)),guarded st1.env ao.g = some true ∧ evalXs st1.env ao.xs = some [.yld l,x] ∧ x.closed = true ∧ xs[k]? = some x ∧
   pickE st1.env ts = env2 ∧ (env2.all fun y=>y.2.closed && !(Nat.beq y.1 d)) = true ∧ GX P n (fun st3=>Q .normal (k + 1) st3) post ⟨(d,.bool true) :: env2,[],0⟩) pre st):IW P n J (.reg [] (pre ++ ao :: post)) Q k st:=by
 obtain ⟨es,st1,h1,_,x,ts,env2,hg,hx,hxc,hk,hp,hall,h3⟩:=h.run.rg (acc:=[])
 obtain ⟨es3,st3,h4,_,hQ⟩:=h3.run.rg (acc:=[])
 refine IW.regY hY h1 hop hd (by simpa [Nat.blt_eq] using hdn) hg hx hxc hk (fun t p hlk=>?_) h4 hQ
 by_cases ht:t = d
 ·subst ht
  left
  simpa [List.lookup] using hlk.symm
 ·right
  have:(t == d) = false:=by simpa using ht
  simp only [List.lookup,this] at hlk
  have h5:st1.env.lookup t = some p:=by rw [← hp] at hlk; exact pickE_lookup _ _ _ _ hlk
  have hmem:(t,p) ∈ env2:=by
   clear h5 h4 h3 hp
   induction env2 with
   | nil=>simp at hlk
   | cons y r ih =>
    obtain ⟨y1,y2⟩:=y
    by_cases hy:t = y1
    ·subst hy
     simp [List.lookup] at hlk
     subst hlk
     exact List.mem_cons_self
    ·have hy':(t == y1) = false:=by simpa using hy
     simp only [List.lookup,hy'] at hlk
     simp only [List.all_cons,Bool.and_eq_true] at hall
     exact List.mem_cons_of_mem _ (ih (by simpa using hall.2) hlk)
  have h6:=List.all_eq_true.1 hall _ hmem
  simp only [Bool.and_eq_true] at h6
  exact ⟨ht,h5,h6.1⟩
theorem IterOk.of {gf:FuncId} {fn:Func} {c:Code} {ac:AC} {caps:List PVal} (hf:P.funcs[gf]? = some fn) (hname:(fn.name == "runtime.NumGoroutine") = false) (hb:fn.body = some c) (hac:transC P c = some ac) (hr:fn.results.toList = []) (hn:1 + caps.length ≤ fn.ntmps)
  (hcl:PVal.closed.go caps = true)
  (h : ∀ (l:Nat) (J:Nat → (Nat → Prop) → World → Prop),YieldOk P l xs J → IW P fn.ntmps J ac (fun e k s=>(e = .normal ∨ e = .ret) ∧ k = xs.length) 0 { env:=paramE 0 (.yld l :: caps),heap:=[],next:=0 }):IterOk P gf caps xs:=by
 refine ⟨enters_of hf hname hb,fun A w lb hA hgs hreps l J hY hJ=>?_⟩
 refine callsIn_of_wp (F:=Fence.wide) hf hb trivial (wpIn_mono (h l J hY c hac _ w ⟨A,w,fun _=>none,hJ,⟨⟨fun id o h=>by simp [St.h] at h,fun id B h=>by simp at h,fun id id' b t t' h=>by simp at h,fun id b t h=>by simp at h,fun id b t h=>by simp at h,fun b h=>.inr h,fun y hy=>⟨fun id t h=>(by cases h),hgs y hy⟩⟩,fun t p hp=>?_,rfl,?_⟩,Step.refl _ w⟩) ?_)
 ·obtain ⟨j,rfl,hj⟩:=paramE_get hp
  rw [Nat.zero_add]
  have hl:lb.length = caps.length:=hreps.1.symm
  have hlt:j < 1 + lb.length:=by have:=(List.getElem?_eq_some_iff.1 hj).1; simp at this; omega
  cases j with
  | zero =>
   simp at hj
   subst hj
   exact ⟨_,by rw [Array.getElem?_append_left (by simp)]; simp,.yld⟩
  | succ j =>
   have hj':caps[j]? = some p:=by simpa using hj
   have hlj:j < lb.length:=by omega
   refine ⟨lb[j],?_,?_⟩
   ·rw [Array.getElem?_append_left (by simp; omega)]
    rw [Array.getElem?_append_right (by simp)]
    simp [hlj]
   ·exact (hreps.2 j p _ hj' (List.getElem?_eq_getElem hlj)).mono (fun _ _ _ hc=>hc) (fun b hb _=>⟨.inl hb,fun _ _ h=>by cases h⟩) (fun h=>h) (fun _ _ _ h=>h.elim) (fun _ _ _ h=>h.elim)
 ·have:=hreps.1
  simp
  omega
 ·rintro e a' w' ⟨k,st',⟨he,rfl⟩,B,Wp,m,hJ',hS',hst'⟩
  have key:a'.defers = [] ∧ ∃ v,(results fn a'.tmps).run P w' = .ok v w' ∧ ∃ v' B Wp,Ending.returned v = .returned v' ∧ J xs.length B Wp ∧ Ext Wp w':=by
   refine ⟨hS'.df,.tuple #[],?_,_,B,Wp,rfl,hJ',Ext.of hst'⟩
   have hre:fn.results = #[]:=by apply Array.ext'; simpa using hr
   unfold results
   rw [hre]
   simp [go_sem]
  rcases he with rfl | rfl
  ·exact key
  ·exact key
end
end Go.Proofs.YtmfggjebbhdejaaGreat.Abs
