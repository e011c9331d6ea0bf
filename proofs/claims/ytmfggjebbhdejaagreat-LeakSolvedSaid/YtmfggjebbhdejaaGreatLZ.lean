/- Prefixes: the program's words and the document's are one; prefixes as texts, there and back. Plain law: no program in sight. -/
import Derived.Test.YtmfggjebbhdejaaGreatPu
import Derived.Test.YtmfggjebbhdejaaGreatA23
import Derived.Test.YtmfggjebbhdejaaGreatB1
import Derived.Test.YtmfggjebbhdejaaGreatB2
import Derived.KernelRfl
set_option linter.unusedVariables false
set_option linter.unusedSimpArgs false
set_option maxRecDepth 100000
set_option maxHeartbeats 4000000
namespace Go.Proofs.YtmfggjebbhdejaaGreat.Abs
open Go
def cmpI (x y:Int):Int:=if x < y then -1 else if y < x then 1 else 0
theorem cmp50 (x y:Int):F127 x y = cmpI x y:=by
 unfold F127 F154 cmpI
 by_cases h:x < y
 ·simp [h]
 ·by_cases h2:y < x
  ·simp [h,h2]
  ·simp [h,h2]
theorem cmp49 (x y:Int):F126 x y = cmpI x y:=cmp50 x y
theorem or_cons (c:Int) (l:List Int):F125 (c :: l) = if c = 0 then F125 l else c:=by
 unfold F125
 rw [F125l1]
 by_cases h:c = 0
 ·simp [h]
 ·simp [h]
def lkN (c:qj):Int:=if c.Leaked = true then 1 else 0
def keyL (c:qj):List Int:=[c.P.A,c.P.N,lkN c,c.From,c.Proto,c.Inst]
def rankL (c:qj):List Int:=[c.Dist,lkN c,c.Proto,c.Metric,c.Inst,c.From]
theorem leaked_eq (c:qj):F128 c = lkN c:=by
 unfold F128 lkN
 cases c.Leaked <;> rfl
theorem leaked_cmp (a b:qj):IntKind.i64.wrap (lkN a - lkN b) = cmpI (lkN a) (lkN b):=by
 unfold lkN cmpI
 cases a.Leaked <;> cases b.Leaked <;> decide
structure MayP (c:qj):Prop where
 p:F124 c.P = true
 proto:0 ≤ c.Proto ∧ c.Proto ≤ 5
 inst:0 ≤ c.Inst ∧ c.Inst ≤ 99
 metric:0 ≤ c.Metric
 from_:0 ≤ c.From ∧ c.From ≤ 31
 hops:1 ≤ (c.Hops.length:Int) ∧ (c.Hops.length:Int) ≤ 8
 leak:c.Leaked = true ∨ c.From = 0
 d0:c.Proto = 0 → c.Dist = 0
 d1:c.Proto ≠ 0 → 1 ≤ c.Dist ∧ c.Dist ≤ 255
theorem may8 (c:qj):F89 c = true ↔ MayP c:=by
 unfold F89 F123
 constructor
 ·intro h
  by_cases h0:c.Proto = 0
  ·by_cases hf:0 ≤ c.From ∧ c.From ≤ 31
   ·cases hl:c.Leaked with
    | true =>
     simp [h0,hf,hl] at h
     exact ⟨h.1,by omega,h.2.1,h.2.2.1,hf,by omega,.inl hl,fun _=>h.2.2.2.1,fun e=>absurd h0 e⟩
    | false =>
     simp [h0,hf,hl] at h
     exact ⟨h.1,by omega,h.2.1,h.2.2.1,hf,by omega,.inr h.2.2.2.2.1,fun _=>h.2.2.2.1,fun e=>absurd h0 e⟩
   ·have:((decide (0 ≤ c.From)) && (decide (c.From ≤ 31))) = false:=by rw [Bool.eq_false_iff]; intro k; simp at k; exact hf k
    simp [h0,this] at h
  ·by_cases hf:0 ≤ c.From ∧ c.From ≤ 31
   ·cases hl:c.Leaked with
    | true =>
     simp [h0,hf,hl] at h
     exact ⟨h.1,h.2.1,h.2.2.1,h.2.2.2.1,hf,by omega,.inl hl,fun e=>absurd e h0,fun _=>h.2.2.2.2.1⟩
    | false =>
     simp [h0,hf,hl] at h
     exact ⟨h.1,h.2.1,h.2.2.1,h.2.2.2.1,hf,by omega,.inr h.2.2.2.2.2.1,fun e=>absurd e h0,fun _=>h.2.2.2.2.1⟩
   ·have:((decide (0 ≤ c.From)) && (decide (c.From ≤ 31))) = false:=by rw [Bool.eq_false_iff]; intro k; simp at k; exact hf k
    simp [h0,this] at h
 ·rintro ⟨p,pr,ins,me,fr,ho,le,d0,d1⟩
  by_cases h0:c.Proto = 0
  ·have:=d0 h0
   cases hl:c.Leaked with
   | true=>simp [h0,fr,hl,p,ins,me,this]; omega
   | false =>
    have hf:c.From = 0:=by rcases le with h | h; rw [hl] at h; cases h; exact h
    simp [h0,hf,hl,p,ins,me,this]; omega
  ·have:=d1 h0
   cases hl:c.Leaked with
   | true=>simp [h0,fr,hl,p,ins,me,this,pr]; omega
   | false =>
    have hf:c.From = 0:=by rcases le with h | h; rw [hl] at h; cases h; exact h
    simp [h0,hf,hl,p,ins,me,this,pr]; omega
theorem getI_nat {α:Type} {L:List α} {i:Nat} {x:α} (h:L[i]? = some x):getI L (i:Int) = some x:=by
 unfold getI
 rw [if_pos (by omega)]
 simpa using h
def PLe (a b:qj):Prop:=a.P.A < b.P.A ∨ (a.P.A = b.P.A ∧ a.P.N ≤ b.P.N)
def PLt (a b:qj):Prop:=a.P.A < b.P.A ∨ (a.P.A = b.P.A ∧ a.P.N < b.P.N)
theorem PLe.cases {a b:qj} (h:PLe a b):a.P = b.P ∨ PLt a b:=by
 unfold PLe PLt at *
 by_cases h1:a.P.A = b.P.A
 ·by_cases h2:a.P.N = b.P.N
  ·left
   cases ha:a.P; cases hb:b.P
   rw [ha,hb] at h1 h2
   simp only at h1 h2
   subst h1 h2
   rfl
  ·right; omega
 ·right; omega
theorem resolve_l1 {t:qk} {h:THop} : ∀ (l:List qj) (i:Nat) (at6:Int),i + l.length = t.L.length → (at6 = -1 ∨ ∃ j:Nat,at6 = j ∧ j < t.L.length) → ∃ a,F148l1 t h at6 i l = some a ∧ (a = -1 ∨ ∃ j:Nat,a = j ∧ j < t.L.length)
 | [],i,at6,_,ha=>⟨at6,by rw [F148l1],ha⟩
 | x :: l,i,at6,hi,ha=>by
  simp only [List.length_cons] at hi
  have ih:=fun a ha=>resolve_l1 (t:=t) (h:=h) l (i + 1) a (by omega) ha
  have hn:(i:Int) = -1 ∨ ∃ j:Nat,(i:Int) = j ∧ j < t.L.length:=.inr ⟨i,rfl,by omega⟩
  rw [F148l1]
  cases decide (x.Proto = 0)
  ·exact ih _ ha
  ·cases x.Leaked
   ·simp only [cond_true,cond_false]
    cases F167 x.P h.Gate
    ·exact ih _ ha
    ·simp only [cond_true]
     rcases ha with ha | ⟨j,ha,hj⟩
     ·subst ha
      exact ih _ hn
     ·subst ha
      have d:decide ((j:Int) < 0) = false:=by simp
      rw [d]
      simp only [cond_false]
      rw [getI_nat (List.getElem?_eq_getElem hj)]
      simp only [obind]
      cases decide (t.L[j].P.N < x.P.N)
      ·exact ih _ (.inr ⟨j,rfl,hj⟩)
      ·exact ih _ hn
   ·exact ih _ ha
theorem resolve_some {t:qk} (hT : ∀ c ∈ t.L,1 ≤ c.Hops.length) (h:THop) : ∃ r,F148 t h = some r:=by
 unfold F148
 cases decide (h.Gate = 0)
 ·simp only [cond_false]
  obtain ⟨a,e,ha⟩:=resolve_l1 (t:=t) (h:=h) t.L 0 (-1) (by omega) (.inl rfl)
  rw [e]
  simp only [obind]
  rcases ha with rfl | ⟨j,rfl,hj⟩
  ·exact ⟨_,rfl⟩
  ·have d:decide ((j:Int) < 0) = false:=by simp
   rw [d,getI_nat (List.getElem?_eq_getElem hj)]
   simp only [cond_false]
   have hh:=hT _ (List.getElem_mem hj)
   have e0:getI t.L[j].Hops 0 = some (t.L[j].Hops[0]'(by omega)):=getI_nat (i:=0) (List.getElem?_eq_getElem (by omega))
   rw [e0]
   exact ⟨_,rfl⟩
 ·exact ⟨_,rfl⟩
theorem lives_l1 {t:qk} (hT : ∀ c ∈ t.L,1 ≤ c.Hops.length) : ∀ (l out:List THop),out.length + l.length < 1099511627776 → ∃ o,F117l1 t out l = some o ∧ o.length ≤ out.length + l.length
 | [],out,_=>⟨out,by rw [F117l1],by simp⟩
 | x :: l,out,hn=>by
  simp only [List.length_cons] at hn
  rw [F117l1]
  obtain ⟨⟨r,b⟩,hr⟩:=resolve_some hT x
  rw [hr]
  simp only [obind]
  cases b with
  | false =>
   obtain ⟨o,h1,h2⟩:=lives_l1 hT l out (by omega)
   exact ⟨o,h1,by simp only [List.length_cons]; omega⟩
  | true =>
   have d:decide (out.length < 1099511627776) = true:=by simp; omega
   rw [d]
   simp only [cond_true]
   obtain ⟨o,h1,h2⟩:=lives_l1 hT l (out ++ [r]) (by simp; omega)
   exact ⟨o,h1,by simp at h2 ⊢; omega⟩
structure Lv (x c:qj):Prop where
 P:x.P = c.P
 rank:rankL x = rankL c
 hops:x.Hops.length ≤ c.Hops.length
theorem lives_some {t:qk} (hT : ∀ c ∈ t.L,1 ≤ c.Hops.length) {c:qj} (hc:c.Hops.length < 1000) : ∃ x ok,F117 t c = some (x,ok) ∧ (ok = true → Lv x c):=by
 unfold F117
 cases decide (c.Proto = 1)
 ·exact ⟨c,true,rfl,fun _=>⟨rfl,rfl,Nat.le_refl _⟩⟩
 ·cases hl:c.Leaked
  ·simp only [cond_true,cond_false]
   obtain ⟨o,h1,h2⟩:=lives_l1 hT c.Hops [] (by simp; omega)
   rw [h1]
   simp only [obind]
   cases decide ((o.length:Int) = 0)
   ·refine ⟨_,true,rfl,fun _=>⟨rfl,?_,by simpa using h2⟩⟩
    unfold rankL lkN
    rw [hl]
   ·exact ⟨_,false,rfl,fun h=>by cases h⟩
  ·exact ⟨c,true,rfl,fun _=>⟨rfl,rfl,Nat.le_refl _⟩⟩
structure LivS (t:qk) (l liv:List qj):Prop where
 eq:livesL t l = some liv
 mem : ∀ x ∈ liv,∃ c ∈ l,F117 t c = some (x,true) ∧ Lv x c
 cov : ∀ c ∈ l,∀ x,F117 t c = some (x,true) → x ∈ liv
 srt:l.Pairwise PLe → liv.Pairwise PLe
 len:liv.length ≤ l.length
theorem livesL_some {t:qk} (hT : ∀ c ∈ t.L,1 ≤ c.Hops.length) : ∀ (l:List qj),(∀ c ∈ l,c.Hops.length < 1000) → ∃ liv,LivS t l liv
 | [],_=>⟨[],rfl,fun x hx=>(by cases hx),fun c hc=>(by cases hc),fun _=>.nil,Nat.le_refl _⟩
 | c :: l,hl=>by
  obtain ⟨liv,h⟩:=livesL_some hT l fun y hy=>hl y (List.mem_cons_of_mem _ hy)
  obtain ⟨x,ok,e,hx⟩:=lives_some hT (hl c List.mem_cons_self)
  refine ⟨bif ok then x :: liv else liv,by rw [livesL,e]; simp only; rw [h.eq],fun y hy=>?_,fun d hd y hy=>?_,fun hs=>?_,?_⟩
  ·cases ok with
   | false =>
    obtain ⟨d,h1,h2⟩:=h.mem y hy
    exact ⟨d,List.mem_cons_of_mem _ h1,h2⟩
   | true =>
    rcases List.mem_cons.1 hy with rfl | hy
    ·exact ⟨c,List.mem_cons_self,e,hx rfl⟩
    ·obtain ⟨d,h1,h2⟩:=h.mem y hy
     exact ⟨d,List.mem_cons_of_mem _ h1,h2⟩
  ·rcases List.mem_cons.1 hd with rfl | hd
   ·rw [e] at hy
    injection hy with hy
    injection hy with h1 h2
    subst h1 h2
    exact List.mem_cons_self
   ·have:=h.cov d hd y hy
    cases ok
    ·exact this
    ·exact List.mem_cons_of_mem _ this
  ·rw [List.pairwise_cons] at hs
   cases ok with
   | false=>exact h.srt hs.2
   | true =>
    refine List.pairwise_cons.2 ⟨fun y hy=>?_,h.srt hs.2⟩
    obtain ⟨d,h1,_,h2⟩:=h.mem y hy
    have:=hs.1 d h1
    unfold PLe at this ⊢
    rw [(hx rfl).P,h2.P]
    exact this
  ·have:=h.len
   cases ok
   ·simp only [cond_false,List.length_cons]; omega
   ·simp only [cond_true,List.length_cons]; omega
theorem idx40_l1 (f:qj → Bool) : ∀ (l:List qj) (i:Nat),(∃ pre x r,l = pre ++ x :: r ∧ f x = true ∧ F115l1 f i l = .error ((i + pre.length:Nat):Int)) ∨ ((∀ y ∈ l,f y = false) ∧ F115l1 f i l = .ok ())
 | [],i=>.inr ⟨fun y hy=>(by cases hy),rfl⟩
 | x :: l,i=>by
  rw [F115l1]
  cases hx:f x with
  | true=>exact .inl ⟨[],x,l,rfl,hx,by simp⟩
  | false =>
   simp only [cond_false]
   rcases idx40_l1 f l (i + 1) with ⟨pre,y,r,e,h1,h3⟩ | ⟨h1,h2⟩
   ·refine .inl ⟨x :: pre,y,r,by rw [e]; rfl,h1,?_⟩
    rw [h3]
    simp only [List.length_cons]
    rw [show i + 1 + pre.length = i + (pre.length + 1) by omega]
   ·refine .inr ⟨fun z hz=>?_,h2⟩
    rcases List.mem_cons.1 hz with rfl | hz
    ·exact hx
    ·exact h1 z hz
abbrev zC:qj:=⟨⟨0,0⟩,0,0,0,0,0,false,0,[]⟩
theorem peq (a b:zy):(decide (a.A = b.A) && (decide (a.N = b.N) && true)) = decide (a = b):=by
 rw [Bool.eq_iff_iff]
 obtain ⟨_,_⟩:=a
 obtain ⟨_,_⟩:=b
 simp
theorem best_spec {t:qk} {all:List qj} (hall:allO t = some all) (p:zy):(∃ e ∈ all,e.P = p ∧ F107 t p = some (e,true)) ∨ ((∀ e ∈ all,e.P ≠ p) ∧ F107 t p = some (zC,false)):=by
 unfold F107 F115
 rw [hall]
 simp only [obind]
 rcases idx40_l1 (fun y0=>F142 y0 p) all 0 with ⟨pre,x,r,e,h1,h3⟩ | ⟨h1,h2⟩
 ·left
  unfold F142 at h1
  rw [peq] at h1
  refine ⟨x,by rw [e]; simp,by simpa using h1,?_⟩
  rw [h3]
  simp only [Nat.zero_add]
  have d:decide (((pre.length:Nat):Int) < 0) = false:=by simp
  rw [d,getI_nat (x:=x) (by rw [e]; simp)]
  rfl
 ·right
  rw [h2]
  refine ⟨fun e he k=>?_,rfl⟩
  have:=h1 e he
  unfold F142 at this
  rw [peq] at this
  simp at this
  exact this k
theorem hops_l1 {b:List THop} : ∀ (rest pre:List THop),b = pre ++ rest → F73l1 b pre.length rest = .ok ()
 | [],pre,_=>rfl
 | x :: rest,pre,he=>by
  rw [F73l1]
  have hlen:(pre ++ [x]).length = pre.length + 1:=by simp
  have hx:b.getD pre.length default = x:=by rw [he]; simp
  rw [hx]
  simp only [decide_true,Bool.and_true,cond_true]
  rw [← hlen]
  exact hops_l1 rest (pre ++ [x]) (by rw [he]; simp)
theorem same_refl (c:qj):F29 c c = true:=by
 unfold F29 F73
 rw [show F73l1 c.Hops 0 c.Hops = .ok () from hops_l1 c.Hops [] rfl]
 simp
theorem rowsR_l1 {b:List qj} : ∀ (rest pre:List qj),b = pre ++ rest → F23l1 b pre.length rest = .ok ()
 | [],pre,_=>rfl
 | x :: rest,pre,he=>by
  rw [F23l1]
  have hlen:(pre ++ [x]).length = pre.length + 1:=by simp
  have hx:b.getD pre.length default = x:=by rw [he]; simp
  rw [hx]
  have e:F29 x ⟨x.P,x.Proto,x.Inst,x.Dist,x.Metric,x.Tag,x.Leaked,x.From,x.Hops⟩ = true:=same_refl x
  simp only [e,cond_true]
  rw [← hlen]
  exact rowsR_l1 rest (pre ++ [x]) (by rw [he]; simp)
theorem rows_refl (l:List qj):F23 l l = true:=by
 unfold F23
 rw [show F23l1 l 0 l = .ok () from rowsR_l1 l [] rfl]
 simp
theorem byKey_or (a b:qj):F91 a b = F125 (List.zipWith cmpI (keyL a) (keyL b)):=by
 unfold F91
 simp only [cmp49,cmp50,leaked_eq,leaked_cmp]
 rfl
theorem or_zero : ∀ {a b:List Int},a.length = b.length → F125 (List.zipWith cmpI a b) = 0 → a = b
 | [],[],_,_=>rfl
 | [],_ :: _,h,_=>by simp at h
 | _ :: _,[],h,_=>by simp at h
 | x :: xs,y :: ys,hl,h=>by
  rw [List.zipWith_cons_cons,or_cons] at h
  unfold cmpI at h
  by_cases h1:x < y
  ·simp [h1] at h
  ·by_cases h2:y < x
   ·simp [h1,h2] at h
   ·simp only [h1,h2,if_false,if_true] at h
    rw [or_zero (by simpa using hl) h,show x = y by omega]
theorem ob_some {α β:Type} (x:α) (f:α → Option β):obind (some x) f = f x:=rfl
def Sat {α:Type} (o:Option α) (Q:α → Prop):Prop:=∃ a,o = some a ∧ Q a
theorem Sat.bind {α β:Type} {o:Option α} {f:α → Option β} {Q:α → Prop} {R:β → Prop} (h:Sat o Q) (k : ∀ a,Q a → Sat (f a) R):Sat (obind o f) R:=by
 obtain ⟨a,rfl,h⟩:=h
 exact k a h
theorem Sat.mono {α:Type} {o:Option α} {Q R:α → Prop} (h:Sat o Q) (k : ∀ a,Q a → R a):Sat o R:=by
 obtain ⟨a,e,h⟩:=h
 exact ⟨a,e,k a h⟩
theorem Sat.gd {α:Type} {c:Bool} {o:Option α} {Q:α → Prop} (hc:c = true) (h:Sat o Q):Sat (bif c then o else none) Q:=by
 rw [hc]; exact h
theorem Sat.ite {α:Type} {c:Bool} {a b:Option α} {Q:α → Prop} (h1:c = true → Sat a Q) (h2:c = false → Sat b Q):Sat (bif c then a else b) Q:=by
 cases c
 ·exact h2 rfl
 ·exact h1 rfl
theorem Sat.getI {α β:Type} {L:List α} {i:Int} {f:α → Option β} {R:β → Prop} (h0:0 ≤ i) (h1:i < (L.length:Int)) (k : ∀ x,x ∈ L → L[i.toNat]? = some x → Sat (f x) R):Sat (obind (getI L i) f) R:=by
 have hl:i.toNat < L.length:=by omega
 have e:Abs.getI L i = some L[i.toNat]:=by
  unfold Abs.getI
  rw [if_pos h0,List.getElem?_eq_getElem hl]
 rw [e]
 exact k _ (List.getElem_mem hl) (List.getElem?_eq_getElem hl)
theorem ins_len {α:Type} (l:List α) (i:Int) (c:α):(ins_ l i [c]).length = l.length + 1:=by
 unfold ins_
 simp only [List.length_append,List.length_take,List.length_drop,List.length_cons,List.length_nil]
 omega
theorem mem_ins {α:Type} {l:List α} {i:Int} {c y:α} (h:y ∈ ins_ l i [c]):y = c ∨ y ∈ l:=by
 unfold ins_ at h
 rcases List.mem_append.1 h with h | h
 ·rcases List.mem_append.1 h with h | h
  ·exact .inr (List.mem_of_mem_take h)
  ·exact .inl (by simpa using h)
 ·exact .inr (List.mem_of_mem_drop h)
theorem del_len {α:Type} (l:List α) {i j:Int} (h:i ≤ j):(del_ l i j).length ≤ l.length:=by
 unfold del_
 simp only [List.length_append,List.length_take,List.length_drop]
 omega
theorem mem_del {α:Type} {l:List α} {i j:Int} {y:α} (h:y ∈ del_ l i j):y ∈ l:=by
 unfold del_ at h
 rcases List.mem_append.1 h with h | h
 ·exact List.mem_of_mem_take h
 ·exact List.mem_of_mem_drop h
theorem bsT90 {l:List qj} {s:qj} {h:qj → qj → Int} (hn:l.length ≤ 100000) : ∀ (fuel i j:Nat),i ≤ j → j ≤ l.length → j - i < 2 ^ fuel →
  ∃ c:Nat,F90l1 l s h (fuel + 1) (i:Int) (j:Int) = some ((c:Int),(c:Int)) ∧ c ≤ l.length
 | fuel,i,j,hij,hj,hf=>by
  unfold F90l1
  by_cases hlt:i < j
  ·have hlt':(i:Int) < (j:Int):=by omega
   simp only [hlt',decide_true,cond_true]
   rw [mid_eq (by omega) (by omega) (by omega),show ((i:Int) + (j:Int)) / 2 = (((i + j) / 2:Nat):Int) by omega]
   have hm:(i + j) / 2 < l.length:=by omega
   rw [getI_nat (List.getElem?_eq_getElem hm)]
   simp only [obind]
   match fuel,hf with
   | 0,hf=>omega
   | fuel + 1,hf =>
    have hf2:j - i < 2 * 2 ^ fuel:=by rw [Nat.pow_succ] at hf; omega
    cases decide (h l[(i + j) / 2] s < 0) with
    | true =>
     rw [cond_true,show IntKind.i64.wrap ((((i + j) / 2:Nat):Int) + 1) = (((i + j) / 2 + 1:Nat):Int) by rw [wi64 (by omega) (by omega)]; omega]
     exact bsT90 hn fuel _ j (by omega) hj (by omega)
    | false =>
     rw [cond_false]
     exact bsT90 hn fuel i _ (by omega) (by omega) (by omega)
  ·have hlt' : ¬ (i:Int) < (j:Int):=by omega
   simp only [hlt',decide_false,cond_false]
   have:i = j:=by omega
   subst this
   exact ⟨i,rfl,hj⟩
theorem bsF90 {l:List qj} {s:qj} {h:qj → qj → Int} (hn:l.length ≤ 100000) : ∃ (c:Nat) (b:Bool),F90 l s h = some ((c:Int),b) ∧ c ≤ l.length ∧ (b = true → ∃ x,l[c]? = some x ∧ h x s = 0):=by
 have hp:l.length - 0 < 2 ^ 99:=Nat.lt_of_lt_of_le (show l.length - 0 < 2 ^ 20 by omega) (Nat.pow_le_pow_right (by decide) (by decide))
 obtain ⟨c,h1,h2⟩:=bsT90 hn (s:=s) (h:=h) 99 0 l.length (Nat.zero_le _) (Nat.le_refl _) hp
 unfold F90
 have e0:(((0:Nat):Int)) = 0:=rfl
 rw [e0] at h1
 rw [h1]
 simp only [obind]
 by_cases hc:c < l.length
 ·have d:decide ((c:Int) < (l.length:Int)) = true:=by simp; omega
  rw [d,cond_true,getI_nat (List.getElem?_eq_getElem hc)]
  exact ⟨c,_,rfl,h2,fun q=>⟨_,List.getElem?_eq_getElem hc,by simpa using q⟩⟩
 ·have d:decide ((c:Int) < (l.length:Int)) = false:=by simp; omega
  rw [d,cond_false]
  exact ⟨c,false,rfl,h2,fun q=>by cases q⟩
theorem bsT104 {l:List zw} {s:zw} {h:zw → zw → Int} (hn:l.length ≤ 100000) : ∀ (fuel i j:Nat),i ≤ j → j ≤ l.length → j - i < 2 ^ fuel →
  ∃ c:Nat,F104l1 l s h (fuel + 1) (i:Int) (j:Int) = some ((c:Int),(c:Int)) ∧ c ≤ l.length
 | fuel,i,j,hij,hj,hf=>by
  unfold F104l1
  by_cases hlt:i < j
  ·have hlt':(i:Int) < (j:Int):=by omega
   simp only [hlt',decide_true,cond_true]
   rw [mid_eq (by omega) (by omega) (by omega),show ((i:Int) + (j:Int)) / 2 = (((i + j) / 2:Nat):Int) by omega]
   have hm:(i + j) / 2 < l.length:=by omega
   rw [getI_nat (List.getElem?_eq_getElem hm)]
   simp only [obind]
   match fuel,hf with
   | 0,hf=>omega
   | fuel + 1,hf =>
    have hf2:j - i < 2 * 2 ^ fuel:=by rw [Nat.pow_succ] at hf; omega
    cases decide (h l[(i + j) / 2] s < 0) with
    | true =>
     rw [cond_true,show IntKind.i64.wrap ((((i + j) / 2:Nat):Int) + 1) = (((i + j) / 2 + 1:Nat):Int) by rw [wi64 (by omega) (by omega)]; omega]
     exact bsT104 hn fuel _ j (by omega) hj (by omega)
    | false =>
     rw [cond_false]
     exact bsT104 hn fuel i _ (by omega) (by omega) (by omega)
  ·have hlt' : ¬ (i:Int) < (j:Int):=by omega
   simp only [hlt',decide_false,cond_false]
   have:i = j:=by omega
   subst this
   exact ⟨i,rfl,hj⟩
theorem bsF104 {l:List zw} {s:zw} {h:zw → zw → Int} (hn:l.length ≤ 100000) : ∃ (c:Nat) (b:Bool),F104 l s h = some ((c:Int),b) ∧ c ≤ l.length ∧ (b = true → ∃ x,l[c]? = some x ∧ h x s = 0):=by
 have hp:l.length - 0 < 2 ^ 99:=Nat.lt_of_lt_of_le (show l.length - 0 < 2 ^ 20 by omega) (Nat.pow_le_pow_right (by decide) (by decide))
 obtain ⟨c,h1,h2⟩:=bsT104 hn (s:=s) (h:=h) 99 0 l.length (Nat.zero_le _) (Nat.le_refl _) hp
 unfold F104
 have e0:(((0:Nat):Int)) = 0:=rfl
 rw [e0] at h1
 rw [h1]
 simp only [obind]
 by_cases hc:c < l.length
 ·have d:decide ((c:Int) < (l.length:Int)) = true:=by simp; omega
  rw [d,cond_true,getI_nat (List.getElem?_eq_getElem hc)]
  exact ⟨c,_,rfl,h2,fun q=>⟨_,List.getElem?_eq_getElem hc,by simpa using q⟩⟩
 ·have d:decide ((c:Int) < (l.length:Int)) = false:=by simp; omega
  rw [d,cond_false]
  exact ⟨c,false,rfl,h2,fun q=>by cases q⟩
theorem bsT143 {l:List qj} {s:zy} {h:qj → zy → Int} (hn:l.length ≤ 100000) : ∀ (fuel i j:Nat),i ≤ j → j ≤ l.length → j - i < 2 ^ fuel →
  ∃ c:Nat,F143l1 l s h (fuel + 1) (i:Int) (j:Int) = some ((c:Int),(c:Int)) ∧ c ≤ l.length
 | fuel,i,j,hij,hj,hf=>by
  unfold F143l1
  by_cases hlt:i < j
  ·have hlt':(i:Int) < (j:Int):=by omega
   simp only [hlt',decide_true,cond_true]
   rw [mid_eq (by omega) (by omega) (by omega),show ((i:Int) + (j:Int)) / 2 = (((i + j) / 2:Nat):Int) by omega]
   have hm:(i + j) / 2 < l.length:=by omega
   rw [getI_nat (List.getElem?_eq_getElem hm)]
   simp only [obind]
   match fuel,hf with
   | 0,hf=>omega
   | fuel + 1,hf =>
    have hf2:j - i < 2 * 2 ^ fuel:=by rw [Nat.pow_succ] at hf; omega
    cases decide (h l[(i + j) / 2] s < 0) with
    | true =>
     rw [cond_true,show IntKind.i64.wrap ((((i + j) / 2:Nat):Int) + 1) = (((i + j) / 2 + 1:Nat):Int) by rw [wi64 (by omega) (by omega)]; omega]
     exact bsT143 hn fuel _ j (by omega) hj (by omega)
    | false =>
     rw [cond_false]
     exact bsT143 hn fuel i _ (by omega) (by omega) (by omega)
  ·have hlt' : ¬ (i:Int) < (j:Int):=by omega
   simp only [hlt',decide_false,cond_false]
   have:i = j:=by omega
   subst this
   exact ⟨i,rfl,hj⟩
theorem bsF143 {l:List qj} {s:zy} {h:qj → zy → Int} (hn:l.length ≤ 100000) : ∃ (c:Nat) (b:Bool),F143 l s h = some ((c:Int),b) ∧ c ≤ l.length ∧ (b = true → ∃ x,l[c]? = some x ∧ h x s = 0):=by
 have hp:l.length - 0 < 2 ^ 99:=Nat.lt_of_lt_of_le (show l.length - 0 < 2 ^ 20 by omega) (Nat.pow_le_pow_right (by decide) (by decide))
 obtain ⟨c,h1,h2⟩:=bsT143 hn (s:=s) (h:=h) 99 0 l.length (Nat.zero_le _) (Nat.le_refl _) hp
 unfold F143
 have e0:(((0:Nat):Int)) = 0:=rfl
 rw [e0] at h1
 rw [h1]
 simp only [obind]
 by_cases hc:c < l.length
 ·have d:decide ((c:Int) < (l.length:Int)) = true:=by simp; omega
  rw [d,cond_true,getI_nat (List.getElem?_eq_getElem hc)]
  exact ⟨c,_,rfl,h2,fun q=>⟨_,List.getElem?_eq_getElem hc,by simpa using q⟩⟩
 ·have d:decide ((c:Int) < (l.length:Int)) = false:=by simp; omega
  rw [d,cond_false]
  exact ⟨c,false,rfl,h2,fun q=>by cases q⟩
def nat_ (l:List qj):List qj:=l.filter (fun c=>!c.Leaked)
theorem nat_ins {l:List qj} {c:qj} (i:Int) (hc:c.Leaked = true):nat_ (ins_ l i [c]) = nat_ l:=by
 unfold nat_ ins_
 rw [List.filter_append,List.filter_append]
 have:List.filter (fun c=>!c.Leaked) [c] = []:=by simp [hc]
 rw [this,List.append_nil,← List.filter_append,List.take_append_drop]
theorem nat_set {c x:qj} (h1:x.Leaked = true) (hc:c.Leaked = true) : ∀ {l:List qj} {i:Nat},l[i]? = some x → nat_ (l.set i c) = nat_ l
 | [],i,h=>by cases h
 | y :: l,0,h=>by
  injection h with h
  subst h
  unfold nat_
  simp [h1,hc]
 | y :: l,i + 1,h=>by
  have ih:=nat_set h1 hc (l:=l) (i:=i) (by simpa using h)
  unfold nat_ at ih ⊢
  rw [List.set_cons_succ,List.filter_cons,List.filter_cons,ih]
structure TB (t:qk):Prop where
 len:t.L.length ≤ 500
 may : ∀ c ∈ t.L,MayP c
theorem put_sat {t:qk} (h:TB t) (c:qj):Sat (F48 t c) (fun r=>TB r.1 ∧ (c.Leaked = true → nat_ r.1.L = nat_ t.L)):=by
 unfold F48
 dsimp only
 refine Sat.ite (fun hm=>?_) (fun _=>⟨_,rfl,h,fun _=>rfl⟩)
 have hm:=(may8 c).1 hm
 have hlen:=h.len
 obtain ⟨i,b,e,hi,hb⟩:=bsF90 (l:=t.L) (s:=c) (h:=fun y0 y1=>F91 y0 y1) (by omega)
 rw [e]
 dsimp only [ob_some]
 refine Sat.gd (by simp; omega) ?_
 cases b with
 | true =>
  obtain ⟨x,hx,hk⟩:=hb rfl
  rw [cond_true,getI_nat hx]
  refine ⟨_,rfl,⟨by simpa using h.len,fun y hy=>?_⟩,fun hc=>nat_set (x:=x) ?_ hc (by simpa using hx)⟩
  ·rcases List.mem_or_eq_of_mem_set hy with hy | rfl
   ·exact h.may _ hy
   ·exact hm
  ·rw [byKey_or] at hk
   have hk:=or_zero (a:=keyL x) (b:=keyL c) rfl hk
   unfold keyL at hk
   have h3:lkN x = lkN c:=by injection hk with _ hk; injection hk with _ hk; injection hk
   unfold lkN at h3
   rw [hc] at h3
   cases hx2:x.Leaked with
   | true=>rfl
   | false=>rw [hx2] at h3; simp at h3
 | false =>
  rw [cond_false]
  refine Sat.ite (fun _=>⟨_,rfl,h,fun _=>rfl⟩) (fun hl=>?_)
  have hl:t.L.length < 500:=by simp at hl; omega
  refine Sat.gd (by simp) (Sat.gd (by simp; omega) ⟨_,rfl,⟨?_,fun y hy=>?_⟩,fun hc=>nat_ins _ hc⟩)
  ·dsimp only
   rw [ins_len]; omega
  ·rcases mem_ins hy with rfl | hy
   ·exact hm
   ·exact h.may _ hy
theorem drop_sat {t:qk} (h:TB t) (c:qj):Sat (F74 t c) (fun r=>TB r.1):=by
 unfold F74
 have hlen:=h.len
 obtain ⟨i,b,e,hi,hb⟩:=bsF90 (l:=t.L) (s:=c) (h:=fun y0 y1=>F91 y0 y1) (by omega)
 rw [e]
 dsimp only [ob_some]
 refine Sat.ite (fun hq=>?_) (fun _=>⟨_,rfl,h⟩)
 obtain ⟨x,hx,hk⟩:=hb hq
 have hil:i < t.L.length:=by
  obtain ⟨q,_⟩:=List.getElem?_eq_some_iff.1 hx
  exact q
 have hw:IntKind.i64.wrap ((i:Int) + 1) = (i:Int) + 1:=wi64 (by omega) (by omega)
 rw [hw]
 refine Sat.gd (by simp; omega) (Sat.gd (by simp) (Sat.gd (by simp; omega) (Sat.gd (by simp; omega) ⟨_,rfl,⟨?_,fun y hy=>h.may _ (mem_del hy)⟩⟩)))
 exact Nat.le_trans (del_len _ (by omega)) hlen
theorem idx_none {f:qj → Bool} {l:List qj} (h : ∀ y ∈ l,f y = false):F115 l f = -1:=by
 unfold F115
 rcases idx40_l1 f l 0 with ⟨pre,x,r,e,h1,h3⟩ | ⟨h1,h2⟩
 ·have:=h x (by rw [e]; simp)
  rw [this] at h1; cases h1
 ·rw [h2]
theorem idx_pre {f:qj → Bool} : ∀ {pre r:List qj} {x:qj} {i:Nat},F115l1 f i (pre ++ x :: r) = .error ((i + pre.length:Nat):Int) → ∀ y ∈ pre,f y = false
 | [],r,x,i,h=>fun y hy=>by cases hy
 | z :: pre,r,x,i,h=>by
  rw [List.cons_append,F115l1] at h
  cases hz:f z with
  | true =>
   rw [hz] at h
   simp at h
   omega
  | false =>
   rw [hz] at h
   simp only [cond_false] at h
   have:=idx_pre (f:=f) (pre:=pre) (r:=r) (x:=x) (i:=i + 1) (by rw [h]; simp; omega)
   intro y hy
   rcases List.mem_cons.1 hy with rfl | hy
   ·exact hz
   ·exact this y hy
theorem delf_l1 {l:List qj} {f:qj → Bool} (hn:l.length ≤ 900) : ∀ (fuel i j:Nat) (s:List qj),i < j → j ≤ l.length → l.length - j < fuel → s.length = l.length → s.take i = (l.take j).filter (fun x=>!f x) → s.drop j = l.drop j →
  ∃ (i':Nat) (s':List qj),F84l1 f fuel (i:Int) (j:Int) s = some ((i':Int),(l.length:Int),s') ∧ s'.length = l.length ∧ i' < l.length ∧ s'.take i' = l.filter (fun x=>!f x)
 | 0,i,j,s,_,_,hf,_,_,_=>by omega
 | fuel + 1,i,j,s,hij,hj,hf,hs,h1,h2=>by
  unfold F84l1
  by_cases hlt:j < l.length
  ·have d:decide ((j:Int) < (s.length:Int)) = true:=by simp; omega
   have hsj:j < s.length:=by omega
   have hx:s[j]? = some s[j]:=List.getElem?_eq_getElem hsj
   have hl:l[j]? = some s[j]:=by
    have e:(s.drop j)[0]? = (l.drop j)[0]?:=by rw [h2]
    rw [List.getElem?_drop,List.getElem?_drop] at e
    rw [Nat.add_zero] at e
    rw [← e]; exact hx
   have htk:(l.take (j + 1)) = l.take j ++ [s[j]]:=by
    rw [List.take_add_one,hl]; rfl
   have hd2:s.drop (j + 1) = l.drop (j + 1):=by
    rw [← List.drop_drop,h2,List.drop_drop]
   rw [d,cond_true,getI_nat hx]
   dsimp only [ob_some]
   have hw:IntKind.i64.wrap ((j:Int) + 1) = ((j + 1:Nat):Int):=by rw [wi64 (by omega) (by omega)]; omega
   rw [hw]
   cases hc:f s[j] with
   | true =>
    rw [cond_true]
    exact delf_l1 hn fuel i (j + 1) s (by omega) (by omega) (by omega) hs (by rw [htk,List.filter_append,← h1]; simp [hc]) hd2
   | false =>
    rw [cond_false,getI_nat (List.getElem?_eq_getElem (show i < s.length by omega))]
    have hwi:IntKind.i64.wrap ((i:Int) + 1) = ((i + 1:Nat):Int):=by rw [wi64 (by omega) (by omega)]; omega
    dsimp only [ob_some]
    rw [hwi,Int.toNat_natCast]
    refine delf_l1 hn fuel (i + 1) (j + 1) (s.set i s[j]) (by omega) (by omega) (by omega) (by simpa using hs) ?_ ?_
    ·rw [htk,List.filter_append,← h1,List.take_add_one,List.getElem?_set_self (by omega),List.take_set_of_le (Nat.le_refl _)]
     simp [hc]
    ·rw [List.drop_set_of_lt (by omega)]; exact hd2
  ·have d:decide ((j:Int) < (s.length:Int)) = false:=by simp; omega
   rw [d,cond_false]
   have hj2:j = l.length:=by omega
   subst hj2
   exact ⟨i,s,rfl,hs,hij,by rw [h1,List.take_length]⟩
theorem delf_eq {l:List qj} (f:qj → Bool) (hn:l.length ≤ 900):F84 l f = some (l.filter (fun x=>!f x)):=by
 unfold F84
 dsimp only
 by_cases hall : ∀ y ∈ l,f y = false
 ·rw [idx_none hall]
  have:l.filter (fun x=>!f x) = l:=List.filter_eq_self.2 (fun y hy=>by rw [hall y hy]; rfl)
  rw [this]
  rfl
 ·rcases idx40_l1 f l 0 with ⟨pre,x,r,e,h1,h3⟩ | ⟨h1,h2⟩
  ·have hpre:F115 l f = (pre.length:Int):=by
    unfold F115
    rw [h3]; simp
   rw [hpre]
   have d:decide ((pre.length:Int) = -1) = false:=by simp
   rw [d,cond_false]
   have hl:l.length = pre.length + (1 + r.length):=by rw [e]; simp; omega
   have hw:IntKind.i64.wrap ((pre.length:Int) + 1) = ((pre.length + 1:Nat):Int):=by rw [wi64 (by omega) (by omega)]; omega
   rw [hw]
   have hnf : ∀ y ∈ pre,f y = false:=(by rw [e] at h3; exact idx_pre h3)
   obtain ⟨i',s',h4,h5,h6,h7⟩:=delf_l1 (l:=l) (f:=f) hn 1000 pre.length (pre.length + 1) l (by omega) (by omega) (by omega) rfl
    (by rw [e,List.take_left,show pre ++ x :: r = (pre ++ [x]) ++ r by simp,List.take_left' (by simp),List.filter_append]
        rw [List.filter_eq_self.2 (fun y hy=>by rw [hnf y hy]; rfl)]; simp [h1]) rfl
   rw [h4]
   dsimp only [ob_some]
   rw [Int.toNat_natCast]
   have d1:decide ((0:Int) ≤ (i':Int)) = true:=by simp
   have d2:decide ((i':Int) ≤ (s'.length:Int)) = true:=by simp; omega
   have d3:decide ((i':Int) < (s'.length:Int)) = true:=by simp; omega
   have tl:(s'.take i').length = i':=by rw [List.length_take]; omega
   rw [d1,cond_true,d2,cond_true,d3,cond_true]
   rw [List.take_left' tl,h7]
   have d4:decide ((i':Int) ≤ ((List.filter (fun x=>!f x) l ++ List.replicate (s'.length - i') (⟨⟨0,0⟩,0,0,0,0,0,false,0,[]⟩ : qj)).length:Int)) = true:=by
    have:(List.filter (fun x=>!f x) l).length = i':=by rw [← h7,tl]
    rw [List.length_append,this]; simp; omega
   rw [d4,cond_true]
  ·exact absurd h1 hall
theorem without_eq {t:qk} (f:qj → Bool) (h:t.L.length ≤ 900):F42 t f = some ⟨t.L.filter (fun x=>!f x)⟩:=by
 unfold F42
 rw [delf_eq f h]
 have d:decide (t.L.length < 1099511627776) = true:=by simp; omega
 rw [d]; rfl
theorem cpy_eq {α:Type} {L X:List α} (h:L.length = X.length):cpy_ L X = X:=by
 unfold cpy_
 rw [h,List.take_length,← h,List.drop_length,List.append_nil]
theorem allT : ∀ (l row:List qj),row.length + l.length ≤ 100000 → ∃ all,F44 row l = some all ∧ all.length ≤ row.length + l.length
 | [],row,_=>⟨row,rfl,by simp⟩
 | x :: l,row,hn=>by
  rw [List.length_cons] at hn
  rw [F44]
  have happ : ∃ all,F44 (row ++ [x]) l = some all ∧ all.length ≤ row.length + (x :: l).length:=by
   obtain ⟨all,h1,h2⟩:=allT l (row ++ [x]) (by simp; omega)
   exact ⟨all,h1,by simp at h2 ⊢; omega⟩
  have d1:decide (row.length < 1099511627776) = true:=by simp; omega
  rw [d1]
  rw [wi64 (by omega) (by omega)]
  by_cases h0:row.length = 0
  ·have d:decide ((row.length:Int) - 1 < 0) = true:=by simp; omega
   rw [d,cond_true,cond_true]
   exact happ
  ·have d:decide ((row.length:Int) - 1 < 0) = false:=by simp; omega
   have e:(row.length:Int) - 1 = ((row.length - 1:Nat):Int):=by omega
   rw [d,cond_false,e,getI_nat (List.getElem?_eq_getElem (show row.length - 1 < row.length by omega))]
   simp only [cond_true]
   cases decide ((row[row.length - 1]'(by omega)).P.A = x.P.A) && (decide ((row[row.length - 1]'(by omega)).P.N = x.P.N) && true) with
   | false=>exact happ
   | true =>
    rw [cond_true]
    cases F87 x (row[row.length - 1]'(by omega)) with
    | true =>
     rw [cond_true]
     obtain ⟨all,h1,h2⟩:=allT l (row.set (((row.length - 1:Nat):Int)).toNat x) (by simp; omega)
     exact ⟨all,h1,by simp at h2 ⊢; omega⟩
    | false =>
     rw [cond_false]
     obtain ⟨all,h1,h2⟩:=allT l row (by omega)
     exact ⟨all,h1,by simp at h2 ⊢; omega⟩
theorem allO_sat {t:qk} (h:TB t):Sat (allO t) (fun a=>a.length ≤ 500):=by
 have hlen:=h.len
 obtain ⟨liv,hl⟩:=livesL_some (t:=t) (fun c hc=>by have:=(h.may c hc).hops; omega) t.L (fun c hc=>by have:=(h.may c hc).hops; omega)
 have:=hl.len
 obtain ⟨all,h1,h2⟩:=allT liv [] (by simp; omega)
 refine ⟨all,?_,by simp at h2; omega⟩
 unfold allO
 rw [hl.eq]
 exact h1
theorem best_sat {t:qk} (h:TB t) (p:zy):Sat (F107 t p) (fun _=>True):=by
 obtain ⟨all,e,_⟩:=allO_sat h
 rcases best_spec e p with ⟨x,_,_,h1⟩ | ⟨_,h1⟩
 ·exact ⟨_,h1,trivial⟩
 ·exact ⟨_,h1,trivial⟩
theorem mark_sat {l:List qj} (hl:l.length ≤ 10000) (p:zy) (c:qj) (is:Bool):Sat (F108 l p c is) (fun r=>r.length ≤ l.length + 1):=by
 unfold F108
 obtain ⟨i,b,e,hi,hb⟩:=bsF143 (l:=l) (s:=p) (h:=fun y0 y1=>F144 y0 y1) (by omega)
 rw [e]
 dsimp only [ob_some]
 have hw:IntKind.i64.wrap ((i:Int) + 1) = (i:Int) + 1:=wi64 (by omega) (by omega)
 rw [hw]
 refine Sat.gd (by simp; omega) (Sat.ite (fun hq=>?_) (fun hq=>?_))
 ·obtain ⟨x,hx,_⟩:=hb hq
  have hil:i < l.length:=by
   obtain ⟨q,_⟩:=List.getElem?_eq_some_iff.1 hx
   exact q
  refine Sat.ite (fun _=>?_) (fun _=>?_)
  ·rw [getI_nat hx]
   exact ⟨_,rfl,by simp⟩
  ·refine Sat.gd (by simp) (Sat.gd (by simp; omega) (Sat.gd (by simp; omega) ⟨_,rfl,?_⟩))
   exact Nat.le_succ_of_le (del_len _ (by omega))
 ·refine Sat.ite (fun _=>?_) (fun _=>⟨_,rfl,by omega⟩)
  refine Sat.gd (by simp) (Sat.gd (by simp; omega) ⟨_,rfl,?_⟩)
  exact Nat.le_of_eq (ins_len _ _ _)
structure NB (s k w:Nat) (n:TNet):Prop where
 s1:1 ≤ s ∧ s ≤ 6
 T:n.T.length = s
 S:n.Sel.length = s
 tb : ∀ t ∈ n.T,TB t
 sel : ∀ r ∈ n.Sel,r.length ≤ k
 ll:n.L.length ≤ k
 lk : ∀ l ∈ n.L,(0 ≤ l.From ∧ l.From < s) ∧ (0 ≤ l.To ∧ l.To < s)
 wl:n.Work.length ≤ w
 wk : ∀ x ∈ n.Work,0 ≤ x.At ∧ x.At < s
theorem NB.mono {s k w k' w':Nat} {n:TNet} (h:NB s k w n) (hk:k ≤ k') (hw:w ≤ w'):NB s k' w' n :=
 ⟨h.s1,h.T,h.S,h.tb,fun r hr=>Nat.le_trans (h.sel r hr) hk,Nat.le_trans h.ll hk,h.lk,Nat.le_trans h.wl hw,h.wk⟩
theorem own_eq {s k w:Nat} {n:TNet} (h:NB s k w n) (hk:k ≤ 1000) (hw:w ≤ 90000):F41 n = some n:=by
 have h1:=h.s1
 have h2:=h.T
 have h3:=h.S
 have h4:=h.ll
 have h5:=h.wl
 unfold F41
 rw [cpy_eq (by simp),cpy_eq (by simp)]
 simp only [List.length_replicate]
 have d1:decide ((0:Int) ≤ (n.T.length:Int)) = true:=by simp
 have d2:decide ((n.T.length:Int) < 1099511627776) = true:=by simp; omega
 have d3:decide ((0:Int) ≤ (n.Sel.length:Int)) = true:=by simp
 have d4:decide ((n.Sel.length:Int) < 1099511627776) = true:=by simp; omega
 have d5:decide (n.L.length < 1099511627776) = true:=by simp; omega
 have d6:decide (n.Work.length < 1099511627776) = true:=by simp; omega
 have d7:decide ((0:Int) < (n.T.length:Int)) = true:=by simp; omega
 have d8:decide ((0:Int) < (n.Sel.length:Int)) = true:=by simp; omega
 rw [d1,d2,d3,d4,d5,d6,d7,d8]
 rfl
theorem todo_sat {s k w:Nat} {n:TNet} (h:NB s k w n) {at1:Int} (ha:0 ≤ at1 ∧ at1 < s) (p:zy) (hw:w ≤ 90000):Sat (F68 n at1 p) (NB s k (w + 1)):=by
 unfold F68
 have h5:=h.wl
 obtain ⟨i,b,e,hi,hb⟩:=bsF104 (l:=n.Work) (s:=(⟨at1,p⟩ : zw)) (h:=fun y0 y1=>F105 y0 y1) (by omega)
 rw [e]
 dsimp only [ob_some]
 refine Sat.ite (fun _=>⟨_,rfl,h.mono (Nat.le_refl _) (by omega)⟩) (fun _=>?_)
 refine Sat.gd (by simp) (Sat.gd (by simp; omega) (Sat.gd (by simp; omega) ⟨_,rfl,⟨h.s1,h.T,h.S,h.tb,h.sel,h.ll,h.lk,?_,fun x hx=>?_⟩⟩))
 ·dsimp only
  rw [ins_len]; omega
 ·rcases mem_ins hx with rfl | hx
  ·exact ha
  ·exact h.wk _ hx
theorem NB.setT {s k w:Nat} {n:TNet} (h:NB s k w n) {t:qk} (ht:TB t) (i:Nat):NB s k w ⟨n.T.set i t,n.Sel,n.L,n.Work,n.Over⟩ :=
 ⟨h.s1,by simpa using h.T,h.S,fun x hx=>by rcases List.mem_or_eq_of_mem_set hx with hx | rfl; exact h.tb _ hx; exact ht,h.sel,h.ll,h.lk,h.wl,h.wk⟩
theorem NB.over {s k w:Nat} {n:TNet} (h:NB s k w n) (o:Bool):NB s k w ⟨n.T,n.Sel,n.L,n.Work,o⟩ :=
 ⟨h.s1,h.T,h.S,h.tb,h.sel,h.ll,h.lk,h.wl,h.wk⟩
theorem change_l1 {s k:Nat} {at1:Int} (ha:0 ≤ at1 ∧ at1 < s) (c:qj) : ∀ (l:List qj) (w:Nat) (n:TNet),NB s k w n → w + l.length ≤ 90000 → Sat (F69l1 at1 c n l) (NB s k (w + l.length))
 | [],w,n,h,_=>⟨n,rfl,h⟩
 | x :: l,w,n,h,hw=>by
  rw [List.length_cons] at hw ⊢
  rw [F69l1]
  have hn:Sat (F69l1 at1 c n l) (NB s k (w + (l.length + 1))):=(change_l1 ha c l w n h (by omega)).mono fun a q=>q.mono (Nat.le_refl _) (by omega)
  refine Sat.ite (fun _=>Sat.ite (fun _=>Sat.ite (fun _=>hn) (fun _=>?_)) (fun _=>hn)) (fun _=>hn)
  refine Sat.bind (todo_sat h ha x.P (by omega)) fun m hm=>?_
  exact (change_l1 ha c l (w + 1) m hm (by omega)).mono fun a q=>q.mono (Nat.le_refl _) (by omega)
theorem change_sat {s k w:Nat} {n:TNet} (h:NB s k w n) (hk:k ≤ 1000) (hw:w ≤ 80000) {w':Nat} (hw':w + 600 ≤ w') {at1:Int} (ha:0 ≤ at1 ∧ at1 < s) {t:qk} (ht:TB t) (c:qj):Sat (F69 n at1 t c) (NB s k w'):=by
 unfold F69
 have htl:=ht.len
 rw [own_eq h hk (by omega)]
 dsimp only [ob_some]
 refine Sat.getI ha.1 (by rw [h.T]; exact ha.2) fun x _ _=>?_
 refine Sat.bind (todo_sat (h.setT ht _) ha c.P (by omega)) fun m hm=>?_
 refine Sat.bind (change_l1 ha c t.L (w + 1) m hm (by omega)) fun a q=>⟨_,rfl,q.mono (Nat.le_refl _) (by omega)⟩
theorem isTable_eq {s k w:Nat} {n:TNet} (h:NB s k w n) (at1:Int):F64 n at1 = some (decide (0 ≤ at1 ∧ at1 < s)):=by
 unfold F64
 rw [h.T]
 by_cases h0:0 ≤ at1
 ·simp [h0]
 ·simp [h0]
theorem put_net {s k w:Nat} {n:TNet} (h:NB s k w n) (hk:k ≤ 1000) (hw:w ≤ 80000) {w':Nat} (hw':w + 600 ≤ w') (at1:Int) (c:qj):Sat (F27 n at1 c) (fun r=>NB s k w' r.1):=by
 unfold F27
 have hn:NB s k w' n:=h.mono (Nat.le_refl _) (by omega)
 rw [isTable_eq h]
 dsimp only [ob_some]
 refine Sat.ite (fun ha=>?_) (fun _=>⟨_,rfl,hn⟩)
 have ha:=of_decide_eq_true ha
 refine Sat.ite (fun _=>⟨_,rfl,hn⟩) (fun _=>?_)
 refine Sat.getI ha.1 (by rw [h.T]; exact ha.2) fun x hx _=>?_
 refine Sat.bind (put_sat (h.tb x hx) c) fun r hr=>?_
 refine Sat.ite (fun _=>?_) (fun _=>⟨_,rfl,hn⟩)
 exact Sat.bind (change_sat h hk hw hw' ha hr.1 c) fun m hm=>⟨_,rfl,hm⟩
theorem drop_net {s k w:Nat} {n:TNet} (h:NB s k w n) (hk:k ≤ 1000) (hw:w ≤ 80000) {w':Nat} (hw':w + 600 ≤ w') (at1:Int) (c:qj):Sat (F31 n at1 c) (fun r=>NB s k w' r.1):=by
 unfold F31
 have hn:NB s k w' n:=h.mono (Nat.le_refl _) (by omega)
 rw [isTable_eq h]
 dsimp only [ob_some]
 refine Sat.ite (fun ha=>?_) (fun _=>⟨_,rfl,hn⟩)
 have ha:=of_decide_eq_true ha
 refine Sat.ite (fun _=>⟨_,rfl,hn⟩) (fun _=>?_)
 refine Sat.getI ha.1 (by rw [h.T]; exact ha.2) fun x hx _=>?_
 refine Sat.bind (drop_sat (h.tb x hx) c) fun r hr=>?_
 refine Sat.ite (fun _=>?_) (fun _=>⟨_,rfl,hn⟩)
 exact Sat.bind (change_sat h hk hw hw' ha hr c) fun m hm=>⟨_,rfl,hm⟩
theorem join_l1 {s k:Nat} {at1:Int} (ha:0 ≤ at1 ∧ at1 < s) : ∀ (l:List qj) (w:Nat) (L:List zz) (o:Bool) (T:List qk) (S:List (List qj)) (W:List zw),NB s k w ⟨T,S,L,W,o⟩ → w + l.length ≤ 90000 →
  Sat (F25l1 at1 L o T S W l) (fun a=>NB s k (w + l.length) ⟨a.2.2.1,a.2.2.2.1,a.1,a.2.2.2.2,a.2.1⟩)
 | [],w,L,o,T,S,W,h,_=>⟨_,rfl,h⟩
 | x :: l,w,L,o,T,S,W,h,hw=>by
  rw [List.length_cons] at hw ⊢
  rw [F25l1]
  refine Sat.bind (todo_sat h ha x.P (by omega)) fun m hm=>?_
  exact (join_l1 ha l (w + 1) m.L m.Over m.T m.Sel m.Work hm (by omega)).mono fun a q=>q.mono (Nat.le_refl _) (by omega)
theorem join_net {s k w:Nat} {n:TNet} (h:NB s k w n) (hk:k ≤ 900) (hw:w ≤ 80000) {w':Nat} (hw':w + 600 ≤ w') (from1 to2:Int) (m:List zx):Sat (F25 n from1 to2 m) (fun r=>NB s (k + 1) w' r.1):=by
 unfold F25
 have hn:NB s (k + 1) w' n:=h.mono (by omega) (by omega)
 rw [isTable_eq h,isTable_eq h]
 dsimp only [ob_some]
 refine Sat.ite (fun ha=>?_) (fun _=>⟨_,rfl,hn⟩)
 refine Sat.ite (fun hb=>?_) (fun _=>⟨_,rfl,hn⟩)
 have ha:=of_decide_eq_true ha
 have hb:=of_decide_eq_true hb
 refine Sat.ite (fun _=>⟨_,rfl,hn⟩) (fun _=>?_)
 refine Sat.ite (fun _=>?_) (fun _=>⟨_,rfl,hn⟩)
 refine Sat.ite (fun _=>⟨_,rfl,hn⟩) (fun _=>?_)
 rw [own_eq h (by omega) (by omega),ob_some]
 have hll:=h.ll
 refine Sat.gd (by simp; omega) ?_
 refine Sat.getI ha.1 (by rw [h.T]; exact ha.2) fun x hx _=>?_
 have hxl:=(h.tb x hx).len
 have h2:NB s (k + 1) w ⟨n.T,n.Sel,n.L ++ [⟨from1,to2,m⟩],n.Work,n.Over⟩ :=
  ⟨h.s1,h.T,h.S,h.tb,fun r hr=>Nat.le_succ_of_le (h.sel r hr),by simp; omega,fun l hl=>by
   rcases List.mem_append.1 hl with hl | hl
   ·exact h.lk l hl
   ·rw [List.mem_singleton] at hl
    subst hl
    exact ⟨ha,hb⟩,h.wl,h.wk⟩
 refine Sat.bind (join_l1 ha x.L w _ _ _ _ _ h2 (by omega)) fun a q=>⟨_,rfl,q.mono (Nat.le_refl _) (by omega)⟩
theorem TB.filter {t:qk} (h:TB t) (f:qj → Bool):TB ⟨t.L.filter f⟩ :=
 ⟨Nat.le_trans (List.length_filter_le _ _) h.len,fun c hc=>h.may c (List.mem_filter.1 hc).1⟩
theorem part_l1 {s k:Nat} (x:zz) (ha:0 ≤ x.To ∧ x.To < s) : ∀ (l:List qj) (w:Nat) (L:List zz) (o:Bool) (T:List qk) (S:List (List qj)) (W:List zw),NB s k w ⟨T,S,L,W,o⟩ → w + l.length ≤ 90000 →
  Sat (F32l1 x L o T S W l) (fun a=>NB s k (w + l.length) ⟨a.2.2.1,a.2.2.2.1,a.1,a.2.2.2.2,a.2.1⟩)
 | [],w,L,o,T,S,W,h,_=>⟨_,rfl,h⟩
 | y :: l,w,L,o,T,S,W,h,hw=>by
  rw [List.length_cons] at hw ⊢
  rw [F32l1]
  refine Sat.ite (fun _=>?_) (fun _=>?_)
  ·refine Sat.bind (todo_sat h ha y.P (by omega)) fun m hm=>?_
   exact (part_l1 x ha l (w + 1) m.L m.Over m.T m.Sel m.Work hm (by omega)).mono fun a q=>q.mono (Nat.le_refl _) (by omega)
  ·exact (part_l1 x ha l w L o T S W h (by omega)).mono fun a q=>q.mono (Nat.le_refl _) (by omega)
theorem part_net {s k w:Nat} {n:TNet} (h:NB s k w n) (hk:k ≤ 900) (hw:w ≤ 80000) {w':Nat} (hw':w + 600 ≤ w') (i:Int):Sat (F32 n i) (fun r=>NB s k w' r.1):=by
 unfold F32
 have hn:NB s k w' n:=h.mono (by omega) (by omega)
 have hll:=h.ll
 refine Sat.ite (fun _=>⟨_,rfl,hn⟩) (fun h0=>?_)
 refine Sat.ite (fun _=>⟨_,rfl,hn⟩) (fun h1=>?_)
 have h0:0 ≤ i:=by simpa using h0
 have h1:i < (n.L.length:Int):=by simpa using h1
 refine Sat.getI h0 h1 fun x hx _=>?_
 have hlk:=h.lk x hx
 rw [own_eq h (by omega) (by omega),ob_some]
 have hwr:IntKind.i64.wrap (i + 1) = i + 1:=wi64 (by omega) (by omega)
 rw [hwr]
 refine Sat.gd (by simp; omega) (Sat.gd (by simp; omega) (Sat.gd (by simp; omega) (Sat.gd (by simp; omega) ?_)))
 refine Sat.getI hlk.2.1 (by rw [h.T]; exact hlk.2.2) fun t ht _=>?_
 have htl:=(h.tb t ht).len
 have h2:NB s k w ⟨n.T,n.Sel,del_ n.L i (i + 1),n.Work,n.Over⟩ :=
  ⟨h.s1,h.T,h.S,h.tb,h.sel,Nat.le_trans (del_len _ (by omega)) h.ll,fun l hl=>h.lk l (mem_del hl),h.wl,h.wk⟩
 refine Sat.bind (part_l1 x hlk.2 t.L w _ _ _ _ _ h2 (by omega)) fun a q=>?_
 refine Sat.getI hlk.2.1 (by have:=q.T; dsimp only at this; rw [this]; exact hlk.2.2) fun t2 ht2 _=>?_
 have hb:=q.tb t2 ht2
 have:=hb.len
 rw [without_eq _ (by omega),ob_some]
 exact ⟨_,rfl,(q.setT (hb.filter _) _).mono (Nat.le_refl _) (by omega)⟩
theorem tells_sat (x:zz) (c:qj):Sat (F47 x c) (fun r=>r.2 = true → r.1.Leaked = true):=by
 unfold F47
 rcases F88 x.Map ⟨c.P,c.Proto,min_ c.Metric 16777215,c.Tag⟩ with ⟨a,b,d⟩
 dsimp only
 refine Sat.ite (fun _=>⟨_,rfl,fun q=>by cases q⟩) (fun _=>Sat.ite (fun _=>⟨_,rfl,fun _=>rfl⟩) (fun _=>⟨_,rfl,fun q=>by cases q⟩))
theorem do_l1 {s k:Nat} {at1:Int} (p:zy) (c:qj × Bool) : ∀ (l:List zz) (w:Nat) (is:Bool) (n:TNet),(∀ x ∈ l,(0 ≤ x.From ∧ x.From < s) ∧ (0 ≤ x.To ∧ x.To < s)) → NB s k w n → w + l.length ≤ 90000 →
  Sat (F71l1 at1 p c is n l) (fun a=>NB s k (w + l.length) a.2)
 | [],w,is,n,_,h,_=>⟨_,rfl,h⟩
 | x :: l,w,is,n,hl,h,hw=>by
  rw [List.length_cons] at hw ⊢
  rw [F71l1]
  have hx:=hl x List.mem_cons_self
  have hl2:=fun y hy=>hl y (List.mem_cons_of_mem _ hy)
  have stay : ∀ (is':Bool) (m:TNet),NB s k w m → Sat (F71l1 at1 p c is' m l) (fun a=>NB s k (w + (l.length + 1)) a.2):=fun is' m hm =>
   (do_l1 p c l w is' m hl2 hm (by omega)).mono fun a q=>q.mono (Nat.le_refl _) (by omega)
  have turn : ∀ (is':Bool) (m:TNet),NB s k w m → Sat (obind (F68 m x.To p) (fun c120=>F71l1 at1 p c is' c120 l)) (fun a=>NB s k (w + (l.length + 1)) a.2):=fun is' m hm =>
   Sat.bind (todo_sat hm hx.2 p (by omega)) fun m2 hm2=>(do_l1 p c l (w + 1) is' m2 hl2 hm2 (by omega)).mono fun a q=>q.mono (Nat.le_refl _) (by omega)
  refine Sat.ite (fun _=>?_) (fun _=>stay _ _ h)
  refine Sat.getI hx.2.1 (by rw [h.T]; exact hx.2.2) fun t ht _=>?_
  have htb:=h.tb t ht
  have:=htb.len
  rw [without_eq _ (by omega),ob_some]
  refine Sat.bind (tells_sat x c.1) fun c70 _=>?_
  refine Sat.ite (fun _=>Sat.ite (fun _=>?_) (fun _=>?_)) (fun _=>?_)
  ·refine Sat.bind (put_sat (htb.filter _) _) fun r hr=>?_
   refine Sat.ite (fun _=>?_) (fun _=>?_)
   ·dsimp only
    refine Sat.ite (fun _=>stay _ _ (h.over _)) (fun _=>turn _ _ ((h.setT hr.1 _).over _))
   ·dsimp only
    refine Sat.ite (fun _=>stay _ _ (h.over _)) (fun _=>turn _ _ ((h.setT hr.1 _).over _))
  ·dsimp only
   refine Sat.ite (fun _=>stay _ _ h) (fun _=>turn _ _ (h.setT (htb.filter _) _))
  ·dsimp only
   refine Sat.ite (fun _=>stay _ _ h) (fun _=>turn _ _ (h.setT (htb.filter _) _))
theorem NB.setS {s k w:Nat} {n:TNet} (h:NB s k w n) {r:List qj} (hr:r.length ≤ k + 1) (i:Nat):NB s (k + 1) w ⟨n.T,n.Sel.set i r,n.L,n.Work,n.Over⟩ :=
 ⟨h.s1,h.T,by simpa using h.S,h.tb,fun x hx=>by rcases List.mem_or_eq_of_mem_set hx with hx | rfl; exact Nat.le_succ_of_le (h.sel _ hx); exact hr,Nat.le_succ_of_le h.ll,h.lk,h.wl,h.wk⟩
theorem do_net {s k w:Nat} {n:TNet} (h:NB s k w n) (hk:k ≤ 500) (hw:w ≤ 80000) {at1:Int} (ha:0 ≤ at1 ∧ at1 < s) (p:zy):Sat (F71 n at1 p) (NB s (k + 1) (w + k)):=by
 unfold F71
 have hll:=h.ll
 refine Sat.getI ha.1 (by rw [h.T]; exact ha.2) fun t ht _=>?_
 refine Sat.bind (best_sat (h.tb t ht) p) fun c _=>?_
 refine Sat.getI ha.1 (by rw [h.S]; exact ha.2) fun r hr _=>?_
 have hrl:=h.sel r hr
 refine Sat.bind (mark_sat (by omega) p c.1 c.2) fun r2 hr2=>?_
 refine Sat.bind (do_l1 p c n.L w c.2 _ h.lk (h.setS (by omega) _) (by omega)) fun a q=>⟨_,rfl,q.mono (Nat.le_refl _) (by omega)⟩
theorem pick_in (i:Int) {n:Nat} (hn:n ≠ 0):0 ≤ Int.tmod (max_ i 0) (n:Int) ∧ Int.tmod (max_ i 0) (n:Int) < n:=by
 have h0:0 ≤ max_ i 0:=by unfold max_; split <;> omega
 exact ⟨Int.tmod_nonneg _ h0,Int.tmod_lt_of_pos _ (by omega)⟩
theorem step_net {s k w:Nat} {n:TNet} (h:NB s k w n) (hk:k ≤ 500) (hw:w ≤ 80000) (i:Int):Sat (F28 n i) (fun r=>NB s (k + 1) (w + k) r.1):=by
 unfold F28
 have hwl:=h.wl
 refine Sat.ite (fun _=>⟨_,rfl,h.mono (by omega) (by omega)⟩) (fun h0=>?_)
 have h0:n.Work.length ≠ 0:=by simp at h0; intro q; exact h0 (List.length_eq_zero_iff.1 q)
 rw [own_eq h (by omega) (by omega),ob_some]
 have hp:=pick_in i h0
 revert hp
 generalize Int.tmod (max_ i 0) (n.Work.length:Int) = q
 intro hp
 refine Sat.gd (decide_eq_true (by omega)) ?_
 refine Sat.getI hp.1 hp.2 fun x hx _=>?_
 have hwr:IntKind.i64.wrap (q + 1) = q + 1:=wi64 (by omega) (by omega)
 rw [hwr]
 refine Sat.gd (by simp; omega) (Sat.gd (by simp; omega) (Sat.gd (by simp; omega) (Sat.gd (by simp; omega) ?_)))
 have h2:NB s k w ⟨n.T,n.Sel,n.L,del_ n.Work q (q + 1),n.Over⟩ :=
  ⟨h.s1,h.T,h.S,h.tb,h.sel,h.ll,h.lk,Nat.le_trans (del_len _ (by omega)) h.wl,fun y hy=>h.wk y (mem_del hy)⟩
 exact Sat.bind (do_net h2 hk hw (h.wk x hx) x.P) fun a q=>⟨_,rfl,q⟩
theorem act_net {s k w:Nat} {n:TNet} (h:NB s k w n) (hk:k ≤ 500) (hw:w ≤ 80000) {w':Nat} (hw':w + 600 ≤ w') (a:TAct):Sat (F14 n a) (fun r=>NB s (k + 1) w' r.1):=by
 unfold F14
 refine Sat.ite (fun _=>?_) (fun _=>Sat.ite (fun _=>?_) (fun _=>Sat.ite (fun _=>?_) (fun _=>Sat.ite (fun _=>?_) (fun _=>?_))))
 ·exact Sat.bind (put_net h (by omega) hw hw' _ _) fun r hr=>⟨_,rfl,hr.mono (by omega) (Nat.le_refl _)⟩
 ·exact Sat.bind (drop_net h (by omega) hw hw' _ _) fun r hr=>⟨_,rfl,hr.mono (by omega) (Nat.le_refl _)⟩
 ·exact Sat.bind (join_net h (by omega) hw hw' _ _ _) fun r hr=>⟨_,rfl,hr⟩
 ·exact Sat.bind (part_net h (by omega) hw hw' _) fun r hr=>⟨_,rfl,hr.mono (by omega) (Nat.le_refl _)⟩
 ·exact Sat.bind (step_net h hk hw _) fun r hr=>⟨_,rfl,hr.mono (Nat.le_refl _) (by omega)⟩
theorem small_l1 : ∀ l:List zx,Sat (F13l1 l) (fun _=>True)
 | []=>⟨_,rfl,trivial⟩
 | x :: l=>by
  rw [F13l1]
  exact Sat.ite (fun _=>⟨_,rfl,trivial⟩) (fun _=>Sat.ite (fun _=>⟨_,rfl,trivial⟩) (fun _=>small_l1 l))
theorem small_sat (a:TAct):Sat (F13 a) (fun _=>True):=by
 unfold F13
 refine Sat.ite (fun _=>⟨_,rfl,trivial⟩) (fun _=>Sat.ite (fun _=>⟨_,rfl,trivial⟩) (fun _=>?_))
 obtain ⟨r,e,_⟩:=small_l1 a.Map
 rw [e]
 cases r
 ·exact ⟨_,rfl,trivial⟩
 ·exact ⟨_,rfl,trivial⟩
theorem built_l1 {s:Nat} : ∀ (l:List TAct) (n:TNet) (i:Nat),NB s i (600 * i) n → i ≤ 30 → Sat (F7l1 n i l) (NB s 30 18000)
 | [],n,i,h,hi=>⟨n,rfl,h.mono hi (by omega)⟩
 | x :: l,n,i,h,hi=>by
  rw [F7l1]
  refine Sat.ite (fun hq=>?_) (fun _=>⟨n,rfl,h.mono hi (by omega)⟩)
  have hq:i < 30:=by have:=of_decide_eq_true hq; omega
  refine Sat.bind (small_sat x) fun b _=>?_
  refine Sat.ite (fun _=>?_) (fun _=>built_l1 l n (i + 1) (h.mono (by omega) (by omega)) (by omega))
  exact Sat.bind (act_net h (by omega) (by omega) (w':=600 * (i + 1)) (by omega) x) fun r hr=>built_l1 l r.1 (i + 1) hr (by omega)
theorem mem_rep {α:Type} {n:Nat} {a b:α} (h:b ∈ List.replicate n a):b = a:=(List.mem_replicate.1 h).2
theorem built_sat (size:Int) (script:List TAct):Sat (F7 size script) (fun r=>r.2 = true → ∃ s,NB s 30 18000 r.1):=by
 unfold F7 F11
 by_cases h1:size < 1
 ·rw [decide_eq_true h1,cond_true,ob_some]
  exact ⟨_,rfl,fun q=>by cases q⟩
 rw [decide_eq_false h1,cond_false]
 by_cases h6:6 < size
 ·rw [decide_eq_true h6,cond_true,ob_some]
  exact ⟨_,rfl,fun q=>by cases q⟩
 rw [decide_eq_false h6,cond_false,decide_eq_true (show (0:Int) ≤ size by omega),cond_true,decide_eq_true (show size < 1099511627776 by omega),cond_true,ob_some]
 have d:decide ((0:Int) = 0) = true:=rfl
 dsimp only
 rw [d,cond_true]
 have h0:NB size.toNat 0 (600 * 0) ⟨List.replicate size.toNat ⟨[]⟩,List.replicate size.toNat [],[],[],false⟩ :=
  ⟨by omega,List.length_replicate ..,List.length_replicate ..,fun t ht=>(by rw [mem_rep ht]; exact ⟨Nat.zero_le _,fun c hc=>(by cases hc)⟩),fun r hr=>(by rw [mem_rep hr]; exact Nat.le_refl _),Nat.le_refl _,fun l hl=>(by cases hl),Nat.zero_le _,fun x hx=>(by cases hx)⟩
 exact Sat.bind (built_l1 script _ 0 h0 (by omega)) fun n hn=>⟨_,rfl,fun _=>⟨_,hn⟩⟩
theorem solved_alive:F8 = some true:=by kernel_rfl
def NT (t:qk):qk:=⟨nat_ t.L⟩
theorem nat_nat (l:List qj):nat_ (nat_ l) = nat_ l:=by
 unfold nat_
 rw [List.filter_filter]
 simp
theorem nt_nt (t:qk):NT (NT t) = NT t:=by
 unfold NT
 rw [nat_nat]
theorem map_set_same {α β:Type} {f:α → β} {x y:α} (h:f y = f x) : ∀ {L:List α} {i:Nat},L[i]? = some x → (L.set i y).map f = L.map f
 | [],i,q=>by cases q
 | z :: L,0,q=>by
  injection q with q
  subst q
  simp [h]
 | z :: L,i + 1,q=>by
  rw [List.set_cons_succ,List.map_cons,List.map_cons,map_set_same h (by simpa using q)]
theorem nat_from {l:List qj} (a:Int):nat_ (l.filter (fun x=>!F46 x a)) = nat_ l:=by
 unfold nat_
 rw [List.filter_filter]
 congr 1
 funext c
 unfold F46
 cases c.Leaked <;> simp
theorem solve_l1 (x:zz) (l:List qj) (hl:l.length ≤ 900) : ∀ (fuel i:Nat) (t:qk),i ≤ l.length → l.length - i < fuel → TB t → Sat (F19l1 x l fuel (i:Int) t) (fun r=>TB r.2 ∧ nat_ r.2.L = nat_ t.L)
 | 0,i,t,_,hf,_=>by omega
 | fuel + 1,i,t,hi,hf,h=>by
  unfold F19l1
  refine Sat.ite (fun hq=>?_) (fun _=>⟨_,rfl,h,rfl⟩)
  have hq:=of_decide_eq_true hq
  have hw:IntKind.i64.wrap ((i:Int) + 1) = ((i + 1:Nat):Int):=by rw [wi64 (by omega) (by omega)]; omega
  rw [hw]
  refine Sat.getI (by omega) hq fun c _ _=>?_
  refine Sat.bind (tells_sat x c) fun r hr=>?_
  refine Sat.ite (fun ht=>?_) (fun _=>solve_l1 x l hl fuel (i + 1) t (by omega) (by omega) h)
  refine Sat.bind (put_sat h r.1) fun p hp=>?_
  exact (solve_l1 x l hl fuel (i + 1) p.1 (by omega) (by omega) hp.1).mono fun a q=>⟨q.1,q.2.trans (hp.2 (hr ht))⟩
theorem solve_l4 {s:Nat} (n:TNet) (hn:n.L.length ≤ 900) (hL : ∀ l ∈ n.L,(0 ≤ l.From ∧ l.From < s) ∧ (0 ≤ l.To ∧ l.To < s)) (S:List (List qj)) (hS:S.length = s) (hr : ∀ r ∈ S,r.length ≤ 500) :
  ∀ (fuel i:Nat) (T:List qk),i ≤ n.L.length → n.L.length - i < fuel → T.length = s → (∀ t ∈ T,TB t) → Sat (F19l4 n S fuel (i:Int) T) (fun r=>r.2.length = s ∧ (∀ t ∈ r.2,TB t) ∧ r.2.map NT = T.map NT)
 | 0,i,T,_,hf,_,_=>by omega
 | fuel + 1,i,T,hi,hf,hT,hb=>by
  unfold F19l4
  refine Sat.ite (fun hq=>?_) (fun _=>⟨_,rfl,hT,hb,rfl⟩)
  have hq:=of_decide_eq_true hq
  have hw:IntKind.i64.wrap ((i:Int) + 1) = ((i + 1:Nat):Int):=by rw [wi64 (by omega) (by omega)]; omega
  rw [hw]
  refine Sat.getI (by omega) hq fun x hx _=>?_
  have hlx:=hL x hx
  refine Sat.getI hlx.2.1 (by rw [hT]; exact hlx.2.2) fun t ht hti=>?_
  have htb:=hb t ht
  have:=htb.len
  rw [without_eq _ (by omega),ob_some]
  refine Sat.getI hlx.1.1 (by rw [hS]; exact hlx.1.2) fun r hrm _=>?_
  have:=hr r hrm
  refine Sat.bind (solve_l1 x r (by omega) 1000 0 _ (by omega) (by omega) (htb.filter _)) fun a q=>?_
  refine (solve_l4 n hn hL S hS hr fuel (i + 1) (T.set x.To.toNat a.2) (by omega) (by omega) (by simpa using hT) (fun y hy=>?_)).mono fun b p=>⟨p.1,p.2.1,p.2.2.trans (map_set_same ?_ hti)⟩
  ·rcases List.mem_or_eq_of_mem_set hy with hy | rfl
   ·exact hb _ hy
   ·exact q.1
  ·unfold NT
   rw [q.2]
   exact congrArg qk.mk (nat_from x.From)
theorem solve_l5 {s:Nat} (hs:s ≤ 6) (T:List qk) (hT:T.length = s) (hb : ∀ t ∈ T,TB t) : ∀ (fuel i:Nat) (S S':List (List qj)),S.length = s → S'.length = s → i ≤ s → s - i < fuel → S.take i = S'.take i → (∀ r ∈ S.take i,r.length ≤ 500) →
  ∃ out,F19l5 T fuel (i:Int) S = some ((s:Int),out) ∧ F19l5 T fuel (i:Int) S' = some ((s:Int),out) ∧ out.length = s ∧ ∀ r ∈ out,r.length ≤ 500
 | 0,i,S,S',_,_,_,hf,_,_=>by omega
 | fuel + 1,i,S,S',h1,h2,hi,hf,h3,h4=>by
  unfold F19l5
  rw [hT]
  by_cases hlt:i < s
  ·have hx:T[i]? = some (T[i]'(by omega)):=List.getElem?_eq_getElem (by omega)
   rw [decide_eq_true (show (i:Int) < (s:Int) by omega),cond_true,cond_true,getI_nat hx]
   obtain ⟨all,e,hall⟩:=allO_sat (hb _ (List.getElem_mem (show i < T.length by omega)))
   have hw:IntKind.i64.wrap ((i:Int) + 1) = ((i + 1:Nat):Int):=by rw [wi64 (by omega) (by omega)]; omega
   have t1 : ∀ {R:List (List qj)},R.length = s → (R.set i all).take (i + 1) = R.take i ++ [all]:=fun {R} hR=>by
    rw [List.take_add_one,List.getElem?_set_self (by omega),List.take_set_of_le (Nat.le_refl _)]; rfl
   obtain ⟨out,g1,g2,g3,g4⟩:=solve_l5 hs T hT hb fuel (i + 1) (S.set i all) (S'.set i all) (by simpa using h1) (by simpa using h2) (by omega) (by omega) (by rw [t1 h1,t1 h2,h3]) (fun r hr=>by
    rw [t1 h1] at hr
    rcases List.mem_append.1 hr with hr | hr
    ·exact h4 r hr
    ·rw [List.mem_singleton] at hr
     rw [hr]; exact hall)
   refine ⟨out,?_,?_,g3,g4⟩
   ·rw [ob_some,e,ob_some,getI_nat (List.getElem?_eq_getElem (show i < S.length by omega)),ob_some,hw]
    exact g1
   ·rw [ob_some,e,ob_some,getI_nat (List.getElem?_eq_getElem (show i < S'.length by omega)),ob_some,hw]
    exact g2
  ·have:i = s:=by omega
   subst this
   rw [decide_eq_false (show ¬ (i:Int) < (i:Int) by omega),cond_false,cond_false]
   rw [← h1,List.take_length,h1,← h2,List.take_length] at h3
   subst h3
   refine ⟨S,rfl,rfl,h1,fun r hr=>h4 r ?_⟩
   rw [← h1,List.take_length]
   exact hr
theorem solve_l6 {s:Nat} (hs:s ≤ 6) (n:TNet) (hn:n.L.length ≤ 900) (hL : ∀ l ∈ n.L,(0 ≤ l.From ∧ l.From < s) ∧ (0 ≤ l.To ∧ l.To < s)) :
  ∀ (fuel i:Nat) (T:List qk) (S:List (List qj)),i ≤ 8 → 8 - i < fuel → T.length = s → (∀ t ∈ T,TB t) → S.length = s → (i = 8 → ∀ r ∈ S,r.length ≤ 500) →
  Sat (F19l6 n fuel (i:Int) T S) (fun r=>(r.2.1.length = s ∧ (∀ t ∈ r.2.1,TB t) ∧ r.2.1.map NT = T.map NT) ∧ r.2.2.length = s ∧ ∀ x ∈ r.2.2,x.length ≤ 500)
 | 0,i,T,S,_,hf,_,_,_,_=>by omega
 | fuel + 1,i,T,S,hi,hf,hT,hb,hS,h8=>by
  unfold F19l6
  refine Sat.ite (fun hq=>?_) (fun hq=>⟨_,rfl,⟨hT,hb,rfl⟩,hS,h8 (by have:=of_decide_eq_false hq; omega)⟩)
  have hq:=of_decide_eq_true hq
  have hw:IntKind.i64.wrap ((i:Int) + 1) = ((i + 1:Nat):Int):=by rw [wi64 (by omega) (by omega)]; omega
  rw [hw]
  obtain ⟨out,e,_,h1,h2⟩:=solve_l5 hs T hT hb 1000 0 S S hS hS (by omega) (by omega) rfl (fun r hr=>by rw [List.take_zero] at hr; cases hr)
  have e:F19l5 T 1000 0 S = some ((s:Int),out):=e
  rw [e,ob_some]
  refine Sat.bind (solve_l4 n hn hL out h1 h2 1000 0 T (by omega) (by omega) hT hb) fun a q=>?_
  exact (solve_l6 hs n hn hL fuel (i + 1) a.2 out (by omega) (by omega) q.1 q.2.1 h1 (fun _=>h2)).mono fun b p=>⟨⟨p.1.1,p.1.2.1,p.1.2.2.trans q.2.2⟩,p.2⟩
theorem l4_same {n n':TNet} (h:n.L = n'.L) (S:List (List qj)) : ∀ (fuel:Nat) (i:Int) (T:List qk),F19l4 n S fuel i T = F19l4 n' S fuel i T
 | 0,i,T=>rfl
 | fuel + 1,i,T=>by
  unfold F19l4
  rw [h]
  simp only [l4_same h S fuel]
theorem l6_same {n n':TNet} (h:n.L = n'.L) : ∀ (fuel:Nat) (i:Int) (T:List qk) (S:List (List qj)),F19l6 n fuel i T S = F19l6 n' fuel i T S
 | 0,i,T,S=>rfl
 | fuel + 1,i,T,S=>by
  unfold F19l6
  simp only [l6_same h fuel,l4_same h]
theorem l6_first {s:Nat} (hs:s ≤ 6) (n:TNet) (T:List qk) (hT:T.length = s) (hb : ∀ t ∈ T,TB t) {S S':List (List qj)} (h1:S.length = s) (h2:S'.length = s) :
  F19l6 n 1000 0 T S = F19l6 n 1000 0 T S':=by
 obtain ⟨out,e,e',_,_⟩:=solve_l5 hs T hT hb 1000 0 S S' h1 h2 (by omega) (by omega) rfl (fun r hr=>by rw [List.take_zero] at hr; cases hr)
 have e:F19l5 T 1000 0 S = some ((s:Int),out):=e
 have e':F19l5 T 1000 0 S' = some ((s:Int),out):=e'
 have u : ∀ R,F19l6 n 1000 0 T R = (obind (F19l5 T 1000 0 R) (fun acc4=>(obind (F19l4 n acc4.2 1000 0 T) (fun acc6=>F19l6 n 999 (IntKind.i64.wrap (0 + 1)) acc6.2 acc4.2)))):=fun R=>rfl
 rw [u,u,e,e']
theorem solve_l7 {s:Nat} (hs:s ≤ 6) (n:TNet) (hT:n.T.length = s) (hb : ∀ t ∈ n.T,TB t) : ∀ (fuel i:Nat) (T:List qk),i ≤ s → s - i < fuel → T = (n.T.take i).map NT ++ n.T.drop i → ∃ x,F19l7 n fuel (i:Int) T = some (x,n.T.map NT)
 | 0,i,T,_,hf,_=>by omega
 | fuel + 1,i,T,hi,hf,h=>by
  unfold F19l7
  rw [hT]
  by_cases hlt:i < s
  ·have hw:IntKind.i64.wrap ((i:Int) + 1) = ((i + 1:Nat):Int):=by rw [wi64 (by omega) (by omega)]; omega
   have hlen:((n.T.take i).map NT).length = i:=by rw [List.length_map,List.length_take]; omega
   have hx:T[i]? = some (n.T[i]'(by omega)):=by
    rw [h,List.getElem?_append_right (by omega),hlen,Nat.sub_self,List.getElem?_drop,Nat.add_zero]
    exact List.getElem?_eq_getElem _
   rw [decide_eq_true (show (i:Int) < (s:Int) by omega),cond_true,getI_nat hx,ob_some]
   have:=(hb _ (List.getElem_mem (show i < n.T.length by omega))).len
   rw [without_eq _ (by omega),ob_some,hw]
   refine solve_l7 hs n hT hb fuel (i + 1) _ (by omega) (by omega) ?_
   have hd:n.T.drop i = n.T[i]'(by omega) :: n.T.drop (i + 1):=List.drop_eq_getElem_cons (by omega)
   rw [h,Int.toNat_natCast,List.set_append_right _ _ (by omega),hlen,Nat.sub_self,hd,List.set_cons_zero]
   rw [List.take_add_one,List.getElem?_eq_getElem (show i < n.T.length by omega),List.map_append,List.append_assoc]
   rfl
  ·have:i = s:=by omega
   subst this
   rw [decide_eq_false (show ¬ (i:Int) < (i:Int) by omega),cond_false]
   refine ⟨(i:Int),?_⟩
   rw [h,← hT,List.take_length,List.drop_length,List.append_nil]
theorem solve_eq {s k w:Nat} {n:TNet} (h:NB s k w n) (hk:k ≤ 600) (hw:w ≤ 80000):F19 n = obind (F19l6 n 1000 0 (n.T.map NT) n.Sel) (fun acc2=>some (⟨acc2.2.1,acc2.2.2,n.L,([]:List zw),n.Over⟩ : TNet)):=by
 unfold F19
 rw [own_eq h (by omega) (by omega),ob_some]
 obtain ⟨x,e⟩:=solve_l7 h.s1.2 n h.T h.tb 1000 0 n.T (by omega) (by have:=h.s1; omega) (by simp)
 have e:F19l7 n 1000 0 n.T = some (x,n.T.map NT):=e
 rw [e,ob_some]
theorem TB.nt {t:qk} (h:TB t):TB (NT t):=h.filter _
theorem solve_spec {s k w:Nat} {n:TNet} (h:NB s k w n) (hk:k ≤ 600) (hw:w ≤ 80000) : ∃ m,F19 n = some m ∧ F19 m = some m ∧ m.Work = [] ∧ m.T.map NT = n.T.map NT ∧ m.T.length = s ∧ (∀ t ∈ m.T,TB t):=by
 have hs:=h.s1.2
 have hll:=h.ll
 have hTl:(n.T.map NT).length = s:=by rw [List.length_map,h.T]
 have hTb : ∀ t ∈ n.T.map NT,TB t:=fun t ht=>by
  obtain ⟨u,hu,rfl⟩:=List.mem_map.1 ht
  exact (h.tb u hu).nt
 obtain ⟨a,e,⟨h1,h2,h3⟩,h4,h5⟩:=solve_l6 hs n (by omega) h.lk 1000 0 (n.T.map NT) n.Sel (by omega) (by omega) hTl hTb h.S (fun q=>by cases q)
 have e:F19l6 n 1000 0 (n.T.map NT) n.Sel = some a:=e
 have hNT:a.2.1.map NT = n.T.map NT:=by
  rw [h3,List.map_map]
  exact List.map_congr_left fun t _=>nt_nt t
 have hm:NB s 600 w ⟨a.2.1,a.2.2,n.L,[],n.Over⟩:=⟨h.s1,h1,h4,h2,fun r hr=>Nat.le_trans (h5 r hr) (by omega),by dsimp only; omega,h.lk,Nat.zero_le _,fun x hx=>(by cases hx)⟩
 refine ⟨⟨a.2.1,a.2.2,n.L,[],n.Over⟩,?_,?_,rfl,hNT,h1,h2⟩
 ·rw [solve_eq h hk hw,e]; rfl
 ·rw [solve_eq hm (by omega) hw]
  dsimp only
  rw [hNT,l6_same (n:=⟨a.2.1,a.2.2,n.L,[],n.Over⟩) (n':=n) rfl,l6_first hs n _ hTl hTb h4 h.S,e]
  rfl
theorem eqH_l1 {b:List THop} : ∀ (rest pre:List THop),b = pre ++ rest → F97l1 b pre.length rest = .ok ()
 | [],pre,_=>rfl
 | x :: rest,pre,he=>by
  rw [F97l1]
  have hlen:(pre ++ [x]).length = pre.length + 1:=by simp
  have hx:b.getD pre.length default = x:=by rw [he]; simp
  rw [hx]
  simp only [decide_true,Bool.and_true,cond_true]
  rw [← hlen]
  exact eqH_l1 rest (pre ++ [x]) (by rw [he]; simp)
theorem alike_refl (c:qj):F57 c c = true:=by
 unfold F57 F97
 rw [show F97l1 c.Hops 0 c.Hops = .ok () from eqH_l1 c.Hops [] rfl]
 simp
theorem eqf56_l1 {b:List qj} {h:qj → qj → Bool} (hh : ∀ c,h c c = true) : ∀ (rest pre:List qj),b = pre ++ rest → F56l1 b h pre.length rest = .ok ()
 | [],pre,_=>rfl
 | x :: rest,pre,he=>by
  rw [F56l1]
  have hlen:(pre ++ [x]).length = pre.length + 1:=by simp
  have hx:b.getD pre.length default = x:=by rw [he]; simp
  rw [hx]
  have e:h x ⟨x.P,x.Proto,x.Inst,x.Dist,x.Metric,x.Tag,x.Leaked,x.From,x.Hops⟩ = true:=hh x
  simp only [e,cond_true]
  rw [← hlen]
  exact eqf56_l1 hh rest (pre ++ [x]) (by rw [he]; simp)
theorem eqf56 (l:List qj):F56 l l (fun y0 y1=>F57 y0 y1) = true:=by
 unfold F56
 rw [show F56l1 l (fun y0 y1=>F57 y0 y1) 0 l = .ok () from eqf56_l1 alike_refl l [] rfl]
 simp
theorem eqf54_l1 {b:List qk} {h:qk → qk → Bool} (hh : ∀ c,h c c = true) : ∀ (rest pre:List qk),b = pre ++ rest → F54l1 b h pre.length rest = some (.ok ())
 | [],pre,_=>rfl
 | x :: rest,pre,he=>by
  rw [F54l1]
  have hlen:(pre ++ [x]).length = pre.length + 1:=by simp
  rw [getI_nat (x:=x) (by rw [he]; simp),ob_some]
  dsimp only
  rw [hh x,cond_true,← hlen]
  exact eqf54_l1 hh rest (pre ++ [x]) (by rw [he]; simp)
theorem eqf54 {h:qk → qk → Bool} (hh : ∀ c,h c c = true) (l:List qk):F54 l l h = some true:=by
 unfold F54
 rw [show F54l1 l h 0 l = some (.ok ()) from eqf54_l1 hh l [] rfl]
 simp only [decide_true,cond_true]
 rfl
theorem eqf58_l1 {b:List (List qj)} {h:(List qj) → (List qj) → Bool} (hh : ∀ c,h c c = true) : ∀ (rest pre:List (List qj)),b = pre ++ rest → F58l1 b h pre.length rest = some (.ok ())
 | [],pre,_=>rfl
 | x :: rest,pre,he=>by
  rw [F58l1]
  have hlen:(pre ++ [x]).length = pre.length + 1:=by simp
  rw [getI_nat (x:=x) (by rw [he]; simp),ob_some]
  dsimp only
  rw [hh x,cond_true,← hlen]
  exact eqf58_l1 hh rest (pre ++ [x]) (by rw [he]; simp)
theorem eqf58 {h:(List qj) → (List qj) → Bool} (hh : ∀ c,h c c = true) (l:List (List qj)):F58 l l h = some true:=by
 unfold F58
 rw [show F58l1 l h 0 l = some (.ok ()) from eqf58_l1 hh l [] rfl]
 simp only [decide_true,cond_true]
 rfl
theorem eqf60_l1 {b:List zz} {h:zz → zz → Bool} (hh : ∀ c,h c c = true) : ∀ (rest pre:List zz),b = pre ++ rest → F60l1 b h pre.length rest = some (.ok ())
 | [],pre,_=>rfl
 | x :: rest,pre,he=>by
  rw [F60l1]
  have hlen:(pre ++ [x]).length = pre.length + 1:=by simp
  rw [getI_nat (x:=x) (by rw [he]; simp),ob_some]
  dsimp only
  rw [hh x,cond_true,← hlen]
  exact eqf60_l1 hh rest (pre ++ [x]) (by rw [he]; simp)
theorem eqf60 {h:zz → zz → Bool} (hh : ∀ c,h c c = true) (l:List zz):F60 l l h = some true:=by
 unfold F60
 rw [show F60l1 l h 0 l = some (.ok ()) from eqf60_l1 hh l [] rfl]
 simp only [decide_true,cond_true]
 rfl
theorem cand_l1 : ∀ (l h:List THop),h.length + l.length < 1099511627776 → F30l1 h l = some (h ++ l)
 | [],h,_=>by rw [F30l1,List.append_nil]
 | x :: l,h,hn=>by
  rw [List.length_cons] at hn
  rw [F30l1,decide_eq_true (show h.length < 1099511627776 by omega),cond_true,cand_l1 l (h ++ [x]) (by simp; omega)]
  simp
theorem cand_eq {c:qj} (h:c.Hops.length ≤ 1000):F30 c = some c:=by
 unfold F30
 rw [cand_l1 _ _ (by simp; omega),ob_some]
 rfl
theorem native_l1 : ∀ (l out:List qj),out.length + l.length ≤ 1000 → (∀ c ∈ l,c.Hops.length ≤ 1000) → F24l1 out l = some (out ++ nat_ l)
 | [],out,_,_=>by
  rw [F24l1]
  unfold nat_
  simp
 | x :: l,out,hn,hh=>by
  rw [List.length_cons] at hn
  rw [F24l1]
  have ih:=fun o ho=>native_l1 l o ho fun c hc=>hh c (List.mem_cons_of_mem _ hc)
  cases hx:x.Leaked with
  | true =>
   rw [cond_true,ih out (by omega)]
   unfold nat_
   simp [hx]
  | false =>
   rw [cond_false,cand_eq (hh x List.mem_cons_self),ob_some,decide_eq_true (show out.length < 1099511627776 by omega),cond_true,ih _ (by simp; omega)]
   unfold nat_
   simp [hx]
theorem native_eq {t:qk} (h:TB t):F24 t.L = some (nat_ t.L):=by
 unfold F24
 have:=h.len
 rw [native_l1 t.L [] (by simp; omega) (fun c hc=>by have:=(h.may c hc).hops; omega),ob_some]
 rfl
theorem solved_l1 (m:TNet) (hm : ∀ t ∈ m.T,TB t) : ∀ (l:List qk) (i:Nat),(∀ t ∈ l,TB t) → (m.T.drop i).map NT = l.map NT → F6l1 m i l = some (.ok ())
 | [],i,_,_=>rfl
 | x :: l,i,hl,he=>by
  rw [F6l1]
  have hi:i < m.T.length:=by
   rcases Nat.lt_or_ge i m.T.length with q | q
   ·exact q
   ·rw [List.drop_eq_nil_of_le q] at he
    cases he
  rw [List.drop_eq_getElem_cons hi,List.map_cons,List.map_cons] at he
  injection he with h1 h2
  have h1:nat_ m.T[i].L = nat_ x.L:=by
   unfold NT at h1
   injection h1
  rw [native_eq (hl x List.mem_cons_self),ob_some,getI_nat (List.getElem?_eq_getElem hi),ob_some,native_eq (hm _ (List.getElem_mem hi)),ob_some,h1]
  dsimp only
  rw [rows_refl,cond_true]
  exact solved_l1 m hm l (i + 1) (fun t ht=>hl t (List.mem_cons_of_mem _ ht)) h2
theorem same_net {m:TNet} (h:m.Work = []):F21 m m = some true:=by
 unfold F21
 rw [eqf54 (h:=fun y0 y1=>F55 y0 y1) (fun c=>eqf56 c.L),ob_some,eqf58 (h:=fun y0 y1=>F59 y0 y1) eqf56,ob_some,
  eqf60 (h:=fun y0 y1=>F61 y0 y1) (fun c=>by unfold F61; simp),ob_some,h]
 have e:F62 [] [] = some true:=rfl
 simp only [cond_true]
 rw [e,ob_some]
 simp
theorem leakSolved_true (size0:Int) (script1:List TAct) {p q:Prop} (_:p) (_:q):F6 size0 script1 = some true:=by
 unfold F6
 obtain ⟨r,e,h⟩:=built_sat size0 script1
 rw [e,ob_some,solved_alive,ob_some]
 cases hr:r.2 with
 | false=>rw [cond_false]
 | true =>
  rw [cond_true]
  obtain ⟨s,hs⟩:=h hr
  obtain ⟨m,h1,h2,h3,h4,h5,h6⟩:=solve_spec hs (by omega) (by omega)
  rw [h1,ob_some,h2,ob_some,same_net h3,ob_some,cond_true,h3]
  have d1:decide ((0:Int) < (([]:List zw).length:Int)) = false:=rfl
  rw [d1,cond_false,decide_eq_true (by rw [h5,hs.T]),cond_true]
  rw [solved_l1 m h6 r.1.T 0 hs.tb (by rw [List.drop_zero]; exact h4)]
  rfl
end Go.Proofs.YtmfggjebbhdejaaGreat.Abs
