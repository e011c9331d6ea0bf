/- Prefixes: the program's words and the document's are one; prefixes as texts, there and back. Plain law: no program in sight. -/
import Derived.Test.YtmfggjebbhdejaaGreatPu
import Derived.Test.YtmfggjebbhdejaaGreatA23
import Derived.Test.YtmfggjebbhdejaaGreatB1
import Derived.Test.YtmfggjebbhdejaaGreatB2
import Derived.KernelRfl
set_option linter.unusedVariables false
set_option linter.unusedSimpArgs false
set_option maxRecDepth 100000
set_option maxHeartbeats 4000000
namespace Go.Proofs.YtmfggjebbhdejaaGreat.Abs
open Go
def cmpI (x y:Int):Int:=if x < y then -1 else if y < x then 1 else 0
theorem cmp50 (x y:Int):F127 x y = cmpI x y:=by
  unfold F127 F154 cmpI
  by_cases h:x < y
  · simp [h]
  · by_cases h2:y < x
    · simp [h,h2]
    · simp [h,h2]
theorem cmp49 (x y:Int):F126 x y = cmpI x y:=cmp50 x y
def lexlt:List Int → List Int → Bool
  | x :: xs,y :: ys=>if x < y then true else if y < x then false else lexlt xs ys
  | _,_=>false
theorem or_nil:F125 [] = 0:=rfl
theorem or_cons (c:Int) (l:List Int):F125 (c :: l) = if c = 0 then F125 l else c:=by
  unfold F125
  rw [F125l1]
  by_cases h:c = 0
  · simp [h]
  · simp [h]
theorem or_lex : ∀ (a b:List Int),decide (F125 (List.zipWith cmpI a b) < 0) = lexlt a b
  | [],_=>by simp [lexlt,or_nil]
  | _ :: _,[]=>by simp [lexlt,or_nil]
  | x :: xs,y :: ys=>by
    rw [List.zipWith_cons_cons,or_cons,lexlt]
    unfold cmpI
    by_cases h:x < y
    · simp [h]
    · by_cases h2:y < x
      · simp [h,h2]
      · simp only [h,h2,if_false,if_true]
        exact or_lex xs ys
def lkN (c:qj):Int:=if c.Leaked = true then 1 else 0
def keyL (c:qj):List Int:=[c.P.A,c.P.N,lkN c,c.From,c.Proto,c.Inst]
def rankL (c:qj):List Int:=[c.Dist,lkN c,c.Proto,c.Metric,c.Inst,c.From]
theorem leaked_eq (c:qj):F128 c = lkN c:=by
  unfold F128 lkN
  cases c.Leaked <;> rfl
theorem leaked_cmp (a b:qj):IntKind.i64.wrap (lkN a - lkN b) = cmpI (lkN a) (lkN b):=by
  unfold lkN cmpI
  cases a.Leaked <;> cases b.Leaked <;> decide
theorem better_lex (a b:qj):F87 a b = lexlt (rankL a) (rankL b):=by
  unfold F87 F118
  simp only [cmp50,leaked_eq,leaked_cmp]
  rw [← or_lex]
  rfl
structure MayP (c:qj):Prop where
  p:F124 c.P = true
  proto:0 ≤ c.Proto ∧ c.Proto ≤ 5
  inst:0 ≤ c.Inst ∧ c.Inst ≤ 99
  metric:0 ≤ c.Metric
  from_:0 ≤ c.From ∧ c.From ≤ 31
  hops:1 ≤ (c.Hops.length:Int) ∧ (c.Hops.length:Int) ≤ 8
  leak:c.Leaked = true ∨ c.From = 0
  d0:c.Proto = 0 → c.Dist = 0
  d1:c.Proto ≠ 0 → 1 ≤ c.Dist ∧ c.Dist ≤ 255
theorem may8 (c:qj):F89 c = true ↔ MayP c:=by
  unfold F89 F123
  constructor
  · intro h
    by_cases h0:c.Proto = 0
    · by_cases hf:0 ≤ c.From ∧ c.From ≤ 31
      · cases hl:c.Leaked with
        | true =>
          simp [h0,hf,hl] at h
          exact ⟨h.1,by omega,h.2.1,h.2.2.1,hf,by omega,.inl hl,fun _=>h.2.2.2.1,fun e=>absurd h0 e⟩
        | false =>
          simp [h0,hf,hl] at h
          exact ⟨h.1,by omega,h.2.1,h.2.2.1,hf,by omega,.inr h.2.2.2.2.1,fun _=>h.2.2.2.1,fun e=>absurd h0 e⟩
      · have:((decide (0 ≤ c.From)) && (decide (c.From ≤ 31))) = false:=by rw [Bool.eq_false_iff]; intro k; simp at k; exact hf k
        simp [h0,this] at h
    · by_cases hf:0 ≤ c.From ∧ c.From ≤ 31
      · cases hl:c.Leaked with
        | true =>
          simp [h0,hf,hl] at h
          exact ⟨h.1,h.2.1,h.2.2.1,h.2.2.2.1,hf,by omega,.inl hl,fun e=>absurd e h0,fun _=>h.2.2.2.2.1⟩
        | false =>
          simp [h0,hf,hl] at h
          exact ⟨h.1,h.2.1,h.2.2.1,h.2.2.2.1,hf,by omega,.inr h.2.2.2.2.2.1,fun e=>absurd e h0,fun _=>h.2.2.2.2.1⟩
      · have:((decide (0 ≤ c.From)) && (decide (c.From ≤ 31))) = false:=by rw [Bool.eq_false_iff]; intro k; simp at k; exact hf k
        simp [h0,this] at h
  · rintro ⟨p,pr,ins,me,fr,ho,le,d0,d1⟩
    by_cases h0:c.Proto = 0
    · have:=d0 h0
      cases hl:c.Leaked with
      | true=>simp [h0,fr,hl,p,ins,me,this]; omega
      | false =>
        have hf:c.From = 0:=by rcases le with h | h; rw [hl] at h; cases h; exact h
        simp [h0,hf,hl,p,ins,me,this]; omega
    · have:=d1 h0
      cases hl:c.Leaked with
      | true=>simp [h0,fr,hl,p,ins,me,this,pr]; omega
      | false =>
        have hf:c.From = 0:=by rcases le with h | h; rw [hl] at h; cases h; exact h
        simp [h0,hf,hl,p,ins,me,this,pr]; omega
theorem getI_nat {α:Type} {L:List α} {i:Nat} {x:α} (h:L[i]? = some x):getI L (i:Int) = some x:=by
  unfold getI
  rw [if_pos (by omega)]
  simpa using h
theorem lexlt_irrefl : ∀ a:List Int,lexlt a a = false
  | []=>rfl
  | x :: xs=>by
    rw [lexlt]
    simp [lexlt_irrefl xs]
theorem lexlt_trans : ∀ {a b c:List Int},lexlt a b = true → lexlt b c = true → lexlt a c = true
  | [],_,_,h,_=>by simp [lexlt] at h
  | _ :: _,[],_,h,_=>by simp [lexlt] at h
  | _ :: _,_ :: _,[],_,h=>by simp [lexlt] at h
  | x :: xs,y :: ys,z :: zs,h,k=>by
    rw [lexlt] at h k ⊢
    by_cases h1:x < y
    · by_cases k1:y < z
      · rw [if_pos (by omega)]
      · rw [if_neg k1] at k
        by_cases k2:z < y
        · rw [if_pos k2] at k; cases k
        · rw [if_pos (by omega)]
    · rw [if_neg h1] at h
      by_cases h2:y < x
      · rw [if_pos h2] at h; cases h
      · rw [if_neg h2] at h
        by_cases k1:y < z
        · rw [if_pos (by omega)]
        · rw [if_neg k1] at k
          by_cases k2:z < y
          · rw [if_pos k2] at k; cases k
          · rw [if_neg k2] at k
            rw [if_neg (by omega),if_neg (by omega)]
            exact lexlt_trans h k
theorem lexlt_total : ∀ {a b:List Int},a.length = b.length → lexlt a b = false → lexlt b a = false → a = b
  | [],[],_,_,_=>rfl
  | [],_ :: _,h,_,_=>by simp at h
  | _ :: _,[],h,_,_=>by simp at h
  | x :: xs,y :: ys,hl,h,k=>by
    rw [lexlt] at h k
    by_cases h1:x < y
    · rw [if_pos h1] at h; cases h
    · rw [if_neg h1] at h
      by_cases h2:y < x
      · rw [if_pos h2] at k; cases k
      · rw [if_neg h2] at h
        rw [if_neg h2,if_neg h1] at k
        have e:x = y:=by omega
        rw [e,lexlt_total (by simpa using hl) h k]
def Kl (a b:qj):Prop:=lexlt (keyL a) (keyL b) = true
theorem Kl.trans {a b c:qj} (h:Kl a b) (k:Kl b c):Kl a c:=lexlt_trans h k
def PLe (a b:qj):Prop:=a.P.A < b.P.A ∨ (a.P.A = b.P.A ∧ a.P.N ≤ b.P.N)
def PLt (a b:qj):Prop:=a.P.A < b.P.A ∨ (a.P.A = b.P.A ∧ a.P.N < b.P.N)
theorem PLt.ne {a b:qj} (h:PLt a b):a.P ≠ b.P:=by
  intro e
  unfold PLt at h
  rw [e] at h
  omega
theorem PLe.cases {a b:qj} (h:PLe a b):a.P = b.P ∨ PLt a b:=by
  unfold PLe PLt at *
  by_cases h1:a.P.A = b.P.A
  · by_cases h2:a.P.N = b.P.N
    · left
      cases ha:a.P; cases hb:b.P
      rw [ha,hb] at h1 h2
      simp only at h1 h2
      subst h1 h2
      rfl
    · right; omega
  · right; omega
theorem Kl.ple {a b:qj} (h:Kl a b):PLe a b:=by
  unfold Kl keyL at h
  rw [lexlt] at h
  unfold PLe
  by_cases h1:a.P.A < b.P.A
  · exact .inl h1
  · rw [if_neg h1] at h
    by_cases h2:b.P.A < a.P.A
    · rw [if_pos h2] at h; cases h
    · rw [if_neg h2,lexlt] at h
      by_cases h3:a.P.N < b.P.N
      · right; omega
      · rw [if_neg h3] at h
        by_cases h4:b.P.N < a.P.N
        · rw [if_pos h4] at h; cases h
        · right; omega
theorem resolve_l1 {t:qk} {h:THop} : ∀ (l:List qj) (i:Nat) (at6:Int),i + l.length = t.L.length → (at6 = -1 ∨ ∃ j:Nat,at6 = j ∧ j < t.L.length) → ∃ a,F148l1 t h at6 i l = some a ∧ (a = -1 ∨ ∃ j:Nat,a = j ∧ j < t.L.length)
  | [],i,at6,_,ha=>⟨at6,by rw [F148l1],ha⟩
  | x :: l,i,at6,hi,ha=>by
    simp only [List.length_cons] at hi
    have ih:=fun a ha=>resolve_l1 (t:=t) (h:=h) l (i + 1) a (by omega) ha
    have hn:(i:Int) = -1 ∨ ∃ j:Nat,(i:Int) = j ∧ j < t.L.length:=.inr ⟨i,rfl,by omega⟩
    rw [F148l1]
    cases decide (x.Proto = 0)
    · exact ih _ ha
    · cases x.Leaked
      · simp only [cond_true,cond_false]
        cases F167 x.P h.Gate
        · exact ih _ ha
        · simp only [cond_true]
          rcases ha with ha | ⟨j,ha,hj⟩
          · subst ha
            exact ih _ hn
          · subst ha
            have d:decide ((j:Int) < 0) = false:=by simp
            rw [d]
            simp only [cond_false]
            rw [getI_nat (List.getElem?_eq_getElem hj)]
            simp only [obind]
            cases decide (t.L[j].P.N < x.P.N)
            · exact ih _ (.inr ⟨j,rfl,hj⟩)
            · exact ih _ hn
      · exact ih _ ha
theorem resolve_some {t:qk} (hT : ∀ c ∈ t.L,1 ≤ c.Hops.length) (h:THop) : ∃ r,F148 t h = some r:=by
  unfold F148
  cases decide (h.Gate = 0)
  · simp only [cond_false]
    obtain ⟨a,e,ha⟩:=resolve_l1 (t:=t) (h:=h) t.L 0 (-1) (by omega) (.inl rfl)
    rw [e]
    simp only [obind]
    rcases ha with rfl | ⟨j,rfl,hj⟩
    · exact ⟨_,rfl⟩
    · have d:decide ((j:Int) < 0) = false:=by simp
      rw [d,getI_nat (List.getElem?_eq_getElem hj)]
      simp only [cond_false]
      have hh:=hT _ (List.getElem_mem hj)
      have e0:getI t.L[j].Hops 0 = some (t.L[j].Hops[0]'(by omega)):=getI_nat (i:=0) (List.getElem?_eq_getElem (by omega))
      rw [e0]
      exact ⟨_,rfl⟩
  · exact ⟨_,rfl⟩
theorem lives_l1 {t:qk} (hT : ∀ c ∈ t.L,1 ≤ c.Hops.length) : ∀ (l out:List THop),out.length + l.length < 1099511627776 → ∃ o,F117l1 t out l = some o ∧ o.length ≤ out.length + l.length
  | [],out,_=>⟨out,by rw [F117l1],by simp⟩
  | x :: l,out,hn=>by
    simp only [List.length_cons] at hn
    rw [F117l1]
    obtain ⟨⟨r,b⟩,hr⟩:=resolve_some hT x
    rw [hr]
    simp only [obind]
    cases b with
    | false =>
      obtain ⟨o,h1,h2⟩:=lives_l1 hT l out (by omega)
      exact ⟨o,h1,by simp only [List.length_cons]; omega⟩
    | true =>
      have d:decide (out.length < 1099511627776) = true:=by simp; omega
      rw [d]
      simp only [cond_true]
      obtain ⟨o,h1,h2⟩:=lives_l1 hT l (out ++ [r]) (by simp; omega)
      exact ⟨o,h1,by simp at h2 ⊢; omega⟩
structure Lv (x c:qj):Prop where
  P:x.P = c.P
  rank:rankL x = rankL c
  hops:x.Hops.length ≤ c.Hops.length
theorem lives_some {t:qk} (hT : ∀ c ∈ t.L,1 ≤ c.Hops.length) {c:qj} (hc:c.Hops.length < 1000) : ∃ x ok,F117 t c = some (x,ok) ∧ (ok = true → Lv x c):=by
  unfold F117
  cases decide (c.Proto = 1)
  · exact ⟨c,true,rfl,fun _=>⟨rfl,rfl,Nat.le_refl _⟩⟩
  · cases hl:c.Leaked
    · simp only [cond_true,cond_false]
      obtain ⟨o,h1,h2⟩:=lives_l1 hT c.Hops [] (by simp; omega)
      rw [h1]
      simp only [obind]
      cases decide ((o.length:Int) = 0)
      · refine ⟨_,true,rfl,fun _=>⟨rfl,?_,by simpa using h2⟩⟩
        unfold rankL lkN
        rw [hl]
      · exact ⟨_,false,rfl,fun h=>by cases h⟩
    · exact ⟨c,true,rfl,fun _=>⟨rfl,rfl,Nat.le_refl _⟩⟩
structure LivS (t:qk) (l liv:List qj):Prop where
  eq:livesL t l = some liv
  mem : ∀ x ∈ liv,∃ c ∈ l,F117 t c = some (x,true) ∧ Lv x c
  cov : ∀ c ∈ l,∀ x,F117 t c = some (x,true) → x ∈ liv
  srt:l.Pairwise PLe → liv.Pairwise PLe
  len:liv.length ≤ l.length
theorem livesL_some {t:qk} (hT : ∀ c ∈ t.L,1 ≤ c.Hops.length) : ∀ (l:List qj),(∀ c ∈ l,c.Hops.length < 1000) → ∃ liv,LivS t l liv
  | [],_=>⟨[],rfl,fun x hx=>(by cases hx),fun c hc=>(by cases hc),fun _=>.nil,Nat.le_refl _⟩
  | c :: l,hl=>by
    obtain ⟨liv,h⟩:=livesL_some hT l fun y hy=>hl y (List.mem_cons_of_mem _ hy)
    obtain ⟨x,ok,e,hx⟩:=lives_some hT (hl c List.mem_cons_self)
    refine ⟨bif ok then x :: liv else liv,by rw [livesL,e]; simp only; rw [h.eq],fun y hy=>?_,fun d hd y hy=>?_,fun hs=>?_,?_⟩
    · cases ok with
      | false =>
        obtain ⟨d,h1,h2⟩:=h.mem y hy
        exact ⟨d,List.mem_cons_of_mem _ h1,h2⟩
      | true =>
        rcases List.mem_cons.1 hy with rfl | hy
        · exact ⟨c,List.mem_cons_self,e,hx rfl⟩
        · obtain ⟨d,h1,h2⟩:=h.mem y hy
          exact ⟨d,List.mem_cons_of_mem _ h1,h2⟩
    · rcases List.mem_cons.1 hd with rfl | hd
      · rw [e] at hy
        injection hy with hy
        injection hy with h1 h2
        subst h1 h2
        exact List.mem_cons_self
      · have:=h.cov d hd y hy
        cases ok
        · exact this
        · exact List.mem_cons_of_mem _ this
    · rw [List.pairwise_cons] at hs
      cases ok with
      | false=>exact h.srt hs.2
      | true =>
        refine List.pairwise_cons.2 ⟨fun y hy=>?_,h.srt hs.2⟩
        obtain ⟨d,h1,_,h2⟩:=h.mem y hy
        have:=hs.1 d h1
        unfold PLe at this ⊢
        rw [(hx rfl).P,h2.P]
        exact this
    · have:=h.len
      cases ok
      · simp only [cond_false,List.length_cons]; omega
      · simp only [cond_true,List.length_cons]; omega
theorem better_irrefl (a:qj):F87 a a = false:=by rw [better_lex]; exact lexlt_irrefl _
theorem better_trans {a b c:qj} (h:F87 a b = true) (k:F87 b c = true):F87 a c = true:=by rw [better_lex] at *; exact lexlt_trans h k
structure AllS (pre row:List qj):Prop where
  mem : ∀ e ∈ row,e ∈ pre
  cov : ∀ d ∈ pre,∃ e ∈ row,e.P = d.P ∧ F87 d e = false
  srt:row.Pairwise PLt
theorem all_l1 : ∀ (l pre row:List qj),AllS pre row → (pre ++ l).Pairwise PLe → row.length ≤ pre.length → pre.length + l.length ≤ 1000 → ∃ all,F44 row l = some all ∧ AllS (pre ++ l) all ∧ all.length ≤ pre.length + l.length
  | [],pre,row,h,_,hn,_=>⟨row,by rw [F44],by rw [List.append_nil]; exact h,by simpa using hn⟩
  | x :: l,pre,row,h,hs,hn,hl=>by
    have he:pre ++ x :: l = (pre ++ [x]) ++ l:=by simp
    simp only [List.length_cons] at hl
    have next : ∀ row',AllS (pre ++ [x]) row' → row'.length ≤ pre.length + 1 → ∃ all,F44 row' l = some all ∧ AllS (pre ++ x :: l) all ∧ all.length ≤ pre.length + (l.length + 1):=by
      intro row' h' hn'
      obtain ⟨all,e,k1,k2⟩:=all_l1 l (pre ++ [x]) row' h' (by rw [← he]; exact hs) (by simpa using hn') (by simp; omega)
      exact ⟨all,e,by rw [he]; exact k1,by simp at k2; omega⟩
    have hpx : ∀ d ∈ pre,PLe d x:=by
      rw [List.pairwise_append] at hs
      exact fun d hd=>hs.2.2 d hd x List.mem_cons_self
    have d0:decide (row.length < 1099511627776) = true:=by simp; omega
    have app:(∀ e ∈ row,PLt e x) → AllS (pre ++ [x]) (row ++ [x]):=fun hlt =>
      ⟨fun e hm=>by
        rcases List.mem_append.1 hm with hm | hm
        · exact List.mem_append_left _ (h.mem e hm)
        · exact List.mem_append_right _ hm,
       fun d hd=>by
        rcases List.mem_append.1 hd with hd | hd
        · obtain ⟨e,h1,h2⟩:=h.cov d hd
          exact ⟨e,List.mem_append_left _ h1,h2⟩
        · rw [List.mem_singleton.1 hd]
          exact ⟨x,by simp,rfl,better_irrefl x⟩,
       by
        rw [List.pairwise_append]
        exact ⟨h.srt,List.pairwise_singleton _ _,fun a ha b hb=>by rw [List.mem_singleton.1 hb]; exact hlt a ha⟩⟩
    rw [F44]
    rcases List.eq_nil_or_concat row with rfl | ⟨r',y,hrow⟩
    · have d:decide (IntKind.i64.wrap ((([]:List qj).length:Int) - 1) < 0) = true:=by decide
      rw [d,d0]
      simp only [cond_true]
      exact next _ (app fun e hm=>by cases hm) (by simp)
    · rw [List.concat_eq_append] at hrow
      subst hrow
      have hw:IntKind.i64.wrap (((r' ++ [y]).length:Int) - 1) = ((r'.length:Nat):Int):=by
        have:(r' ++ [y]).length = r'.length + 1:=by simp
        rw [this,wi64 (by omega) (by omega)]
        omega
      have d:decide (((r'.length:Nat):Int) < 0) = false:=by simp
      have hg:getI (r' ++ [y]) ((r'.length:Nat):Int) = some y:=getI_nat (by simp)
      have hy:y ∈ pre:=h.mem y (by simp)
      have hsr:=h.srt
      rw [List.pairwise_append] at hsr
      have hry : ∀ e ∈ r',PLt e y:=fun e hm=>hsr.2.2 e hm y (by simp)
      simp only [hw,d,hg,cond_false]
      rcases (hpx y hy).cases with hP | hP
      · have dP:(decide (y.P.A = x.P.A) && (decide (y.P.N = x.P.N) && true)) = true:=by rw [hP]; simp
        simp only [dP,cond_true]
        cases hb:F87 x y with
        | true =>
          simp only [cond_true,Int.toNat_natCast]
          have hset:(r' ++ [y]).set r'.length x = r' ++ [x]:=by simp
          rw [hset]
          refine next _ ⟨fun e hm=>?_,fun d hd=>?_,?_⟩ (by simp at hn ⊢; omega)
          · rcases List.mem_append.1 hm with hm | hm
            · exact List.mem_append_left _ (h.mem e (List.mem_append_left _ hm))
            · exact List.mem_append_right _ hm
          · rcases List.mem_append.1 hd with hd | hd
            · obtain ⟨e,h1,h2,h3⟩:=h.cov d hd
              rcases List.mem_append.1 h1 with h1 | h1
              · exact ⟨e,List.mem_append_left _ h1,h2,h3⟩
              · rw [List.mem_singleton.1 h1] at h2 h3
                refine ⟨x,by simp,by rw [← hP]; exact h2,?_⟩
                cases k:F87 d x with
                | false=>rfl
                | true=>rw [better_trans k hb] at h3; cases h3
            · rw [List.mem_singleton.1 hd]
              exact ⟨x,by simp,rfl,better_irrefl x⟩
          · rw [List.pairwise_append]
            refine ⟨hsr.1,List.pairwise_singleton _ _,fun a ha b hb=>?_⟩
            rw [List.mem_singleton.1 hb]
            have:=hry a ha
            unfold PLt at this ⊢
            rw [← hP]
            exact this
        | false =>
          simp only [cond_false]
          refine next _ ⟨fun e hm=>List.mem_append_left _ (h.mem e hm),fun d hd=>?_,h.srt⟩ (by omega)
          rcases List.mem_append.1 hd with hd | hd
          · exact h.cov d hd
          · rw [List.mem_singleton.1 hd]
            exact ⟨y,by simp,hP,hb⟩
      · have dP:(decide (y.P.A = x.P.A) && (decide (y.P.N = x.P.N) && true)) = false:=by
          rw [Bool.eq_false_iff]
          intro k
          simp at k
          unfold PLt at hP
          omega
        simp only [dP,d0,cond_true,cond_false]
        refine next _ (app fun e hm=>?_) (by simp at hn ⊢; omega)
        rcases List.mem_append.1 hm with hm | hm
        · have:=hry e hm
          unfold PLt at this hP ⊢
          omega
        · rw [List.mem_singleton.1 hm]
          exact hP
structure Counts (t:qk) (liv all:List qj):Prop where
  lv:LivS t t.L liv
  eq:allO t = some all
  al:AllS liv all
theorem all_one {all:List qj} (h:all.Pairwise PLt) {a b:qj} (ha:a ∈ all) (hb:b ∈ all) (e:a.P = b.P):a = b:=by
  obtain ⟨i,hi,rfl⟩:=List.getElem_of_mem ha
  obtain ⟨j,hj,rfl⟩:=List.getElem_of_mem hb
  rcases Nat.lt_trichotomy i j with q | q | q
  · exact absurd e (List.pairwise_iff_getElem.1 h i j hi hj q).ne
  · subst q; rfl
  · exact absurd e.symm (List.pairwise_iff_getElem.1 h j i hj hi q).ne
theorem idx40_l1 (f:qj → Bool) : ∀ (l:List qj) (i:Nat),(∃ pre x r,l = pre ++ x :: r ∧ f x = true ∧ F115l1 f i l = .error ((i + pre.length:Nat):Int)) ∨ ((∀ y ∈ l,f y = false) ∧ F115l1 f i l = .ok ())
  | [],i=>.inr ⟨fun y hy=>(by cases hy),rfl⟩
  | x :: l,i=>by
    rw [F115l1]
    cases hx:f x with
    | true=>exact .inl ⟨[],x,l,rfl,hx,by simp⟩
    | false =>
      simp only [cond_false]
      rcases idx40_l1 f l (i + 1) with ⟨pre,y,r,e,h1,h3⟩ | ⟨h1,h2⟩
      · refine .inl ⟨x :: pre,y,r,by rw [e]; rfl,h1,?_⟩
        rw [h3]
        simp only [List.length_cons]
        rw [show i + 1 + pre.length = i + (pre.length + 1) by omega]
      · refine .inr ⟨fun z hz=>?_,h2⟩
        rcases List.mem_cons.1 hz with rfl | hz
        · exact hx
        · exact h1 z hz
abbrev zC:qj:=⟨⟨0,0⟩,0,0,0,0,0,false,0,[]⟩
theorem peq (a b:zy):(decide (a.A = b.A) && (decide (a.N = b.N) && true)) = decide (a = b):=by
  rw [Bool.eq_iff_iff]
  obtain ⟨_,_⟩:=a
  obtain ⟨_,_⟩:=b
  simp
theorem best_spec {t:qk} {all:List qj} (hall:allO t = some all) (p:zy):(∃ e ∈ all,e.P = p ∧ F107 t p = some (e,true)) ∨ ((∀ e ∈ all,e.P ≠ p) ∧ F107 t p = some (zC,false)):=by
  unfold F107 F115
  rw [hall]
  simp only [obind]
  rcases idx40_l1 (fun y0=>F142 y0 p) all 0 with ⟨pre,x,r,e,h1,h3⟩ | ⟨h1,h2⟩
  · left
    unfold F142 at h1
    rw [peq] at h1
    refine ⟨x,by rw [e]; simp,by simpa using h1,?_⟩
    rw [h3]
    simp only [Nat.zero_add]
    have d:decide (((pre.length:Nat):Int) < 0) = false:=by simp
    rw [d,getI_nat (x:=x) (by rw [e]; simp)]
    rfl
  · right
    rw [h2]
    refine ⟨fun e he k=>?_,rfl⟩
    have:=h1 e he
    unfold F142 at this
    rw [peq] at this
    simp at this
    exact this k
theorem hops_l1 {b:List THop} : ∀ (rest pre:List THop),b = pre ++ rest → F73l1 b pre.length rest = .ok ()
  | [],pre,_=>rfl
  | x :: rest,pre,he=>by
    rw [F73l1]
    have hlen:(pre ++ [x]).length = pre.length + 1:=by simp
    have hx:b.getD pre.length default = x:=by rw [he]; simp
    rw [hx]
    simp only [decide_true,Bool.and_true,cond_true]
    rw [← hlen]
    exact hops_l1 rest (pre ++ [x]) (by rw [he]; simp)
theorem same_refl (c:qj):F29 c c = true:=by
  unfold F29 F73
  rw [show F73l1 c.Hops 0 c.Hops = .ok () from hops_l1 c.Hops [] rfl]
  simp
theorem byKey_or (a b:qj):F91 a b = F125 (List.zipWith cmpI (keyL a) (keyL b)):=by
  unfold F91
  simp only [cmp49,cmp50,leaked_eq,leaked_cmp]
  rfl
theorem or_zero : ∀ {a b:List Int},a.length = b.length → F125 (List.zipWith cmpI a b) = 0 → a = b
  | [],[],_,_=>rfl
  | [],_ :: _,h,_=>by simp at h
  | _ :: _,[],h,_=>by simp at h
  | x :: xs,y :: ys,hl,h=>by
    rw [List.zipWith_cons_cons,or_cons] at h
    unfold cmpI at h
    by_cases h1:x < y
    · simp [h1] at h
    · by_cases h2:y < x
      · simp [h1,h2] at h
      · simp only [h1,h2,if_false,if_true] at h
        rw [or_zero (by simpa using hl) h,show x = y by omega]
def sm:List Nat → Nat
  | []=>0
  | x :: l=>x + sm l
theorem sm_app : ∀ a b:List Nat,sm (a ++ b) = sm a + sm b
  | [],b=>by simp [sm]
  | x :: a,b=>by rw [List.cons_append,sm,sm_app a b,sm]; omega
theorem sm_le {α:Type} {f g:α → Nat} : ∀ {l:List α},(∀ x ∈ l,f x ≤ g x) → sm (l.map f) ≤ sm (l.map g)
  | [],_=>Nat.le_refl _
  | x :: l,h=>by
    have h1:=h x List.mem_cons_self
    have h2:=sm_le (f:=f) (g:=g) (l:=l) fun y hy=>h y (List.mem_cons_of_mem _ hy)
    simp only [List.map_cons,sm]
    omega
theorem sm_add {α:Type} (f g:α → Nat) : ∀ l:List α,sm (l.map fun x=>f x + g x) = sm (l.map f) + sm (l.map g)
  | []=>rfl
  | x :: l=>by
    have:=sm_add f g l
    simp only [List.map_cons,sm]
    omega
theorem sm_const {α:Type} (c:Nat) : ∀ l:List α,sm (l.map fun _=>c) = c * l.length
  | []=>rfl
  | x :: l=>by
    have:=sm_const c l
    simp only [List.map_cons,sm,List.length_cons,Nat.mul_succ]
    omega
theorem sm_mul {α:Type} (c:Nat) (f:α → Nat) : ∀ l:List α,sm (l.map fun x=>c * f x) = c * sm (l.map f)
  | []=>rfl
  | x :: l=>by
    have:=sm_mul c f l
    simp only [List.map_cons,sm,Nat.mul_add]
    omega
theorem sm_pay {α:Type} {f f' e:α → Nat} {l:List α} {k:α} {C E:Nat} (hk:k ∈ l) (hE:sm (l.map e) ≤ E) (h0 : ∀ x ∈ l,f' x ≤ f x + e x) (h1:f' k + C ≤ f k):sm (l.map f') + C ≤ sm (l.map f) + E:=by
  have key : ∀ m:List α,k ∈ m → (∀ x ∈ m,f' x ≤ f x + e x) → sm (m.map f') + C ≤ sm (m.map f) + sm (m.map e):=by
    intro m
    induction m with
    | nil=>intro h; cases h
    | cons y m ih =>
      intro h g
      simp only [List.map_cons,sm]
      rcases List.mem_cons.1 h with rfl | h
      · have:=sm_le (f:=f') (g:=fun x=>f x + e x) (l:=m) fun x hx=>g x (List.mem_cons_of_mem _ hx)
        rw [sm_add] at this
        omega
      · have g1:=g y List.mem_cons_self
        have:=ih h fun x hx=>g x (List.mem_cons_of_mem _ hx)
        omega
  have:=key l hk h0
  omega
def gr (ds:List Int) (v:Int):Nat:=(ds.filter fun u=>decide (v < u)).length
theorem gr_le (ds:List Int) (v:Int):gr ds v ≤ ds.length:=List.length_filter_le _ _
theorem min_of : ∀ {ds:List Int},ds ≠ [] → ∃ m ∈ ds,∀ u ∈ ds,m ≤ u
  | [x],_=>⟨x,by simp,fun u hu=>by simp at hu; omega⟩
  | x :: y :: ds,_=>by
    obtain ⟨m,h1,h2⟩:=min_of (ds:=y :: ds) (by simp)
    by_cases h:x ≤ m
    · refine ⟨x,List.mem_cons_self,fun u hu=>?_⟩
      rcases List.mem_cons.1 hu with rfl | hu
      · exact Int.le_refl _
      · have:=h2 u hu; omega
    · refine ⟨m,List.mem_cons_of_mem _ h1,fun u hu=>?_⟩
      rcases List.mem_cons.1 hu with rfl | hu
      · omega
      · exact h2 u hu
theorem gr_mid {A B:List Int} {m v:Int} (h:m ≤ v):gr (A ++ m :: B) v = gr (A ++ B) v:=by
  unfold gr
  rw [List.filter_append,List.filter_cons,List.filter_append]
  have:decide (v < m) = false:=by simp; omega
  rw [this]
  rfl
theorem pow_sum : ∀ (n:Nat) (ds:List Int),ds.length ≤ n → sm (ds.map fun v=>2 ^ gr ds v) + 1 ≤ 2 ^ n
  | 0,ds,h=>by
    have:ds = []:=List.length_eq_zero_iff.1 (by omega)
    rw [this]
    decide
  | n + 1,ds,h=>by
    by_cases h0:ds = []
    · rw [h0]
      exact Nat.one_le_two_pow
    · obtain ⟨m,hm,hmin⟩:=min_of h0
      obtain ⟨A,B,rfl⟩:=List.append_of_mem hm
      have hl:(A ++ B).length ≤ n:=by simp at h ⊢; omega
      have ih:=pow_sum n (A ++ B) hl
      have e : ∀ l:List Int,(∀ v ∈ l,m ≤ v) → (l.map fun v=>2 ^ gr (A ++ m :: B) v) = l.map fun v=>2 ^ gr (A ++ B) v:=fun l hl=>List.map_congr_left fun v hv=>by rw [gr_mid (hl v hv)]
      rw [List.map_append,List.map_cons,sm_app,sm,e A fun v hv=>hmin v (by simp [hv]),e B fun v hv=>hmin v (by simp [hv]),gr_mid (Int.le_refl m)]
      rw [List.map_append,sm_app] at ih
      have h2:2 ^ gr (A ++ B) m ≤ 2 ^ n:=Nat.pow_le_pow_right (by decide) (Nat.le_trans (gr_le _ _) hl)
      rw [Nat.pow_succ]
      omega
def wt (ds:List Int) (v:Int):Nat:=5 * 2 ^ gr ds v
theorem gr_up {ds:List Int} {v u:Int} (h:v < u):gr (ds.filter fun x=>decide (v < x)) u = gr ds u:=by
  unfold gr
  rw [List.filter_filter]
  congr 1
  refine List.filter_congr fun x _=>?_
  by_cases h2:u < x
  · have:v < x:=by omega
    simp [h2,this]
  · simp [h2]
theorem wt_up (ds:List Int) (v:Int):sm ((ds.filter fun u=>decide (v < u)).map (wt ds)) + 5 ≤ wt ds v:=by
  have h:=pow_sum (gr ds v) (ds.filter fun u=>decide (v < u)) (Nat.le_refl _)
  have e:((ds.filter fun u=>decide (v < u)).map (wt ds)) = (ds.filter fun u=>decide (v < u)).map fun u=>5 * 2 ^ gr (ds.filter fun x=>decide (v < x)) u:=List.map_congr_left fun u hu=>by
    have:=(List.mem_filter.1 hu).2
    unfold wt
    rw [gr_up (by simpa using this)]
  rw [e,sm_mul]
  unfold wt
  omega
theorem wt_all {ds:List Int} {n:Nat} (h:ds.length ≤ n):sm (ds.map (wt ds)) + 5 ≤ 5 * 2 ^ n:=by
  have h:=pow_sum n ds h
  unfold wt
  rw [sm_mul]
  omega
theorem wt_if {α:Type} (d:α → Int) (l:List α) (v:Int):sm (l.map fun x=>if v < d x then wt (l.map d) (d x) else 0) + 5 ≤ wt (l.map d) v:=by
  have h:=wt_up (l.map d) v
  have e : ∀ (w:Int → Nat) (m:List α),sm (m.map fun x=>if v < d x then w (d x) else 0) = sm (((m.map d).filter fun u=>decide (v < u)).map w):=by
    intro w m
    induction m with
    | nil=>rfl
    | cons x m ih =>
      simp only [List.map_cons,sm,List.filter_cons]
      by_cases hx:v < d x
      · rw [if_pos hx,decide_eq_true hx,if_pos rfl,List.map_cons,sm,ih]
      · rw [if_neg hx,decide_eq_false hx]
        simpa using ih
  rw [e]
  exact h
theorem nodup_le {α:Type} [DecidableEq α] : ∀ {a b:List α},a.Nodup → (∀ x ∈ a,x ∈ b) → a.length ≤ b.length
  | [],b,_,_=>Nat.zero_le _
  | x :: a,b,h,k=>by
    rw [List.nodup_cons] at h
    obtain ⟨A,B,rfl⟩:=List.append_of_mem (k x List.mem_cons_self)
    have:=nodup_le (a:=a) (b:=A ++ B) h.2 fun y hy=>by
      have:=k y (List.mem_cons_of_mem _ hy)
      rw [List.mem_append,List.mem_cons] at this
      rcases this with q | rfl | q
      · exact List.mem_append_left _ q
      · exact absurd hy h.1
      · exact List.mem_append_right _ q
    simp at this ⊢
    omega
theorem ob_some {α β:Type} (x:α) (f:α → Option β):obind (some x) f = f x:=rfl
theorem ins_at {α:Type} (A B:List α) (c:α):ins_ (A ++ B) (A.length:Int) [c] = A ++ c :: B:=by
  unfold ins_; simp
theorem del_at {α:Type} (A B:List α) (y:α):del_ (A ++ y :: B) (A.length:Int) ((A.length:Int) + 1) = A ++ B:=by
  unfold del_
  have:((A.length:Int) + 1).toNat = A.length + 1:=by omega
  rw [this,Int.toNat_natCast,List.take_left' rfl,show A ++ y :: B = (A ++ [y]) ++ B by simp,List.drop_left' (by simp)]
theorem lset_at {α:Type} (A B:List α) (y c:α):(A ++ y :: B).set A.length c = A ++ c :: B:=by simp
theorem get_at {α:Type} (A B:List α) (y:α):getI (A ++ y :: B) (A.length:Int) = some y:=getI_nat (by simp)
def bsq {α β:Type} (l:List α) (s:β) (h:α → β → Int):Nat → Int → Int → Option (Int × Int)
  | 0,_,_=>none
  | f + 1,i,j=>bif decide (i < j) then
        (obind (getI l (IntKind.i64.wrap (Int.fdiv (IntKind.u64.wrap (IntKind.i64.wrap (i + j))) (2 ^ 1)))) (fun x =>
           (bif decide (h x s < 0) then
             bsq l s h f (IntKind.i64.wrap ((IntKind.i64.wrap (Int.fdiv (IntKind.u64.wrap (IntKind.i64.wrap (i + j))) (2 ^ 1))) + 1)) j
           else
             bsq l s h f i (IntKind.i64.wrap (Int.fdiv (IntKind.u64.wrap (IntKind.i64.wrap (i + j))) (2 ^ 1))))))
      else some (i,j)
def bsQ {α β:Type} (l:List α) (s:β) (h:α → β → Int):Option (Int × Bool) :=
  obind (bsq l s h 100 0 (l.length:Int)) (fun a=>bif decide (a.1 < (l.length:Int)) then obind (getI l a.1) (fun x=>some (a.1,decide (h x s = 0))) else some (a.1,false))
theorem bq90 (l:List qj) (s:qj) (h:qj → qj → Int) : ∀ f i j,F90l1 l s h f i j = bsq l s h f i j
  | 0,_,_=>rfl
  | f + 1,i,j=>by unfold F90l1 bsq; simp only [bq90 l s h f]
theorem bq104 (l:List zw) (s:zw) (h:zw → zw → Int) : ∀ f i j,F104l1 l s h f i j = bsq l s h f i j
  | 0,_,_=>rfl
  | f + 1,i,j=>by unfold F104l1 bsq; simp only [bq104 l s h f]
theorem bq143 (l:List qj) (s:zy) (h:qj → zy → Int) : ∀ f i j,F143l1 l s h f i j = bsq l s h f i j
  | 0,_,_=>rfl
  | f + 1,i,j=>by unfold F143l1 bsq; simp only [bq143 l s h f]
theorem bQ90 (l:List qj) (s:qj) (h:qj → qj → Int):F90 l s h = bsQ l s h:=by
  unfold F90 bsQ; rw [bq90]
theorem bQ104 (l:List zw) (s:zw) (h:zw → zw → Int):F104 l s h = bsQ l s h:=by
  unfold F104 bsQ; rw [bq104]
theorem bQ143 (l:List qj) (s:zy) (h:qj → zy → Int):F143 l s h = bsQ l s h:=by
  unfold F143 bsQ; rw [bq143]
theorem bsq_l1 {α β:Type} {l:List α} {s:β} {h:α → β → Int} (hn:l.length ≤ 100000) (mono : ∀ a b (hb:b < l.length) (hab:a < b),h l[b] s < 0 → h (l[a]'(by omega)) s < 0) : ∀ (fuel i j:Nat),i ≤ j → j ≤ l.length → j - i < 2 ^ fuel →
    (∀ a (ha:a < l.length),a < i → h l[a] s < 0) → (∀ a (ha:a < l.length),j ≤ a → ¬ h l[a] s < 0) →
    ∃ c:Nat,bsq l s h (fuel + 1) (i:Int) (j:Int) = some ((c:Int),(c:Int)) ∧ c ≤ l.length ∧
      (∀ a (ha:a < l.length),a < c → h l[a] s < 0) ∧ (∀ a (ha:a < l.length),c ≤ a → ¬ h l[a] s < 0)
  | fuel,i,j,hij,hj,hf,hlo,hhi=>by
    unfold bsq
    by_cases hlt:i < j
    · have hlt':(i:Int) < (j:Int):=by omega
      simp only [hlt',decide_true,cond_true]
      rw [mid_eq (by omega) (by omega) (by omega),show ((i:Int) + (j:Int)) / 2 = (((i + j) / 2:Nat):Int) by omega]
      have hm:(i + j) / 2 < l.length:=by omega
      rw [getI_nat (List.getElem?_eq_getElem hm),ob_some]
      match fuel,hf with
      | 0,hf=>omega
      | fuel + 1,hf =>
        have hf2:j - i < 2 * 2 ^ fuel:=by rw [Nat.pow_succ] at hf; omega
        by_cases hc:h l[(i + j) / 2] s < 0
        · rw [decide_eq_true hc,cond_true]
          rw [show IntKind.i64.wrap ((((i + j) / 2:Nat):Int) + 1) = (((i + j) / 2 + 1:Nat):Int) by rw [wi64 (by omega) (by omega)]; omega]
          refine bsq_l1 hn mono fuel ((i + j) / 2 + 1) j (by omega) hj (by omega) (fun a ha hai=>?_) hhi
          rcases Nat.lt_or_eq_of_le (Nat.le_of_lt_succ hai) with q | q
          · exact mono a _ hm q hc
          · subst q; exact hc
        · rw [decide_eq_false hc,cond_false]
          refine bsq_l1 hn mono fuel i ((i + j) / 2) (by omega) (by omega) (by omega) hlo (fun a ha hai=>?_)
          rcases Nat.lt_or_eq_of_le hai with q | q
          · exact fun q2=>hc (mono _ a ha q q2)
          · subst q; exact hc
    · have hlt' : ¬ (i:Int) < (j:Int):=by omega
      simp only [hlt',decide_false,cond_false]
      have:i = j:=by omega
      subst this
      exact ⟨i,rfl,hj,hlo,hhi⟩
def Srt {α:Type} (k:α → List Int) (l:List α):Prop:=l.Pairwise fun a b=>lexlt (k a) (k b) = true
theorem srt_one {α:Type} {k:α → List Int} {l:List α} (h:Srt k l) {a b:α} (ha:a ∈ l) (hb:b ∈ l) (e:k a = k b):a = b:=by
  obtain ⟨i,hi,rfl⟩:=List.getElem_of_mem ha
  obtain ⟨j,hj,rfl⟩:=List.getElem_of_mem hb
  rcases Nat.lt_trichotomy i j with q | q | q
  · have:=List.pairwise_iff_getElem.1 h i j hi hj q
    rw [e,lexlt_irrefl] at this; cases this
  · subst q; rfl
  · have:=List.pairwise_iff_getElem.1 h j i hj hi q
    rw [e,lexlt_irrefl] at this; cases this
theorem srt_nodup {α:Type} {k:α → List Int} {l:List α} (h:Srt k l):l.Nodup:=h.imp fun {a b} q e=>by
  rw [e,lexlt_irrefl] at q; cases q
theorem lex_ne {a b:List Int} (h:lexlt a b = true):a ≠ b:=fun e=>by rw [e,lexlt_irrefl] at h; cases h
theorem srt_ins {α:Type} {k:α → List Int} {A B:List α} {x:α} (h:Srt k (A ++ B)) (hA : ∀ y ∈ A,lexlt (k y) (k x) = true) (hB : ∀ y ∈ B,lexlt (k x) (k y) = true) :
    Srt k (A ++ x :: B) ∧ ∀ y,y ∈ A ++ x :: B ↔ y = x ∨ (y ∈ A ++ B ∧ k y ≠ k x):=by
  unfold Srt at *
  rw [List.pairwise_append] at h
  refine ⟨List.pairwise_append.2 ⟨h.1,List.pairwise_cons.2 ⟨hB,h.2.1⟩,fun a ha b hb=>?_⟩,fun y=>?_⟩
  · rcases List.mem_cons.1 hb with rfl | hb
    · exact hA a ha
    · exact h.2.2 a ha b hb
  · simp only [List.mem_append,List.mem_cons]
    constructor
    · rintro (q | q | q)
      · exact .inr ⟨.inl q,lex_ne (hA y q)⟩
      · exact .inl q
      · exact .inr ⟨.inr q,(lex_ne (hB y q)).symm⟩
    · rintro (q | ⟨q | q,_⟩)
      · exact .inr (.inl q)
      · exact .inl q
      · exact .inr (.inr q)
theorem srt_del {α:Type} {k:α → List Int} {A B:List α} {y:α} (h:Srt k (A ++ y :: B)) :
    Srt k (A ++ B) ∧ ∀ z,z ∈ A ++ B ↔ z ∈ A ++ y :: B ∧ k z ≠ k y:=by
  unfold Srt at *
  rw [List.pairwise_append,List.pairwise_cons] at h
  refine ⟨List.pairwise_append.2 ⟨h.1,h.2.1.2,fun a ha b hb=>h.2.2 a ha b (List.mem_cons_of_mem _ hb)⟩,fun z=>?_⟩
  simp only [List.mem_append,List.mem_cons]
  constructor
  · rintro (q | q)
    · exact ⟨.inl q,lex_ne (h.2.2 z q y List.mem_cons_self)⟩
    · exact ⟨.inr (.inr q),(lex_ne (h.2.1.1 z q)).symm⟩
  · rintro ⟨q | q | q,n⟩
    · exact .inl q
    · exact absurd (by rw [q]) n
    · exact .inr q
theorem srt_rep {α:Type} {k:α → List Int} {A B:List α} {x y:α} (h:Srt k (A ++ y :: B)) (e:k y = k x) :
    Srt k (A ++ x :: B) ∧ ∀ z,z ∈ A ++ x :: B ↔ z = x ∨ (z ∈ A ++ y :: B ∧ k z ≠ k x):=by
  have hd:=srt_del h
  unfold Srt at h
  rw [List.pairwise_append,List.pairwise_cons] at h
  have:=srt_ins (x:=x) hd.1 (fun z hz=>by rw [← e]; exact h.2.2 z hz y List.mem_cons_self) (fun z hz=>by rw [← e]; exact h.2.1.1 z hz)
  refine ⟨this.1,fun z=>?_⟩
  rw [this.2,hd.2,e,and_assoc,and_self]
theorem find_spec {α β:Type} {k:α → List Int} {l:List α} {s:β} {h:α → β → Int} {K:List Int} (hs:Srt k l) (hn:l.length ≤ 100000) (hk : ∀ a,(k a).length = K.length) (hh : ∀ a,h a s = F125 (List.zipWith cmpI (k a) K)) :
    ∃ (A B:List α) (b:Bool),bsQ l s h = some ((A.length:Int),b) ∧
      ((b = true ∧ ∃ y C,B = y :: C ∧ k y = K) ∨ (b = false ∧ (∀ y ∈ A,lexlt (k y) K = true) ∧ (∀ y ∈ B,lexlt K (k y) = true))) ∧ l = A ++ B:=by
  have hneg : ∀ a,h a s < 0 ↔ lexlt (k a) K = true:=fun a=>by rw [hh,← or_lex]; simp
  have hp:l.length - 0 < 2 ^ 99:=Nat.lt_of_lt_of_le (show l.length - 0 < 2 ^ 20 by omega) (Nat.pow_le_pow_right (by decide) (by decide))
  obtain ⟨c,h1,h2,h3,h4⟩:=bsq_l1 (s:=s) (h:=h) hn (fun a b hb hab q=>(hneg _).2 (lexlt_trans (List.pairwise_iff_getElem.1 hs a b (by omega) hb hab) ((hneg _).1 q))) 99 0 l.length (Nat.zero_le _) (Nat.le_refl _) hp (fun a ha h0=>absurd h0 (Nat.not_lt_zero _)) (fun a ha h0=>absurd ha (by omega))
  have e0:(((0:Nat):Int)) = 0:=rfl
  rw [e0] at h1
  have hA : ∀ y ∈ l.take c,lexlt (k y) K = true:=by
    intro y hy
    obtain ⟨i,hi,rfl⟩:=List.getElem_of_mem hy
    rw [List.length_take] at hi
    rw [List.getElem_take]
    exact (hneg _).1 (h3 i (by omega) (by omega))
  have hl:(l.take c).length = c:=by rw [List.length_take]; omega
  refine ⟨l.take c,l.drop c,?_⟩
  rw [hl]
  unfold bsQ
  rw [h1,ob_some]
  by_cases hc:c < l.length
  · have hd:l.drop c = l[c] :: l.drop (c + 1):=List.drop_eq_getElem_cons hc
    rw [decide_eq_true (show ((c:Int),(c:Int)).1 < (l.length:Int) by dsimp only; omega),cond_true,getI_nat (List.getElem?_eq_getElem hc),ob_some]
    by_cases hz:h l[c] s = 0
    · refine ⟨true,by rw [decide_eq_true hz],.inl ⟨rfl,_,_,hd,?_⟩,(List.take_append_drop c l).symm⟩
      rw [hh] at hz
      exact or_zero (hk _) hz
    · have hgt:lexlt K (k l[c]) = true:=by
        have h5:=h4 c hc (Nat.le_refl _)
        cases q:lexlt K (k l[c]) with
        | true=>rfl
        | false =>
          have h6:lexlt (k l[c]) K = false:=by
            cases q2:lexlt (k l[c]) K with
            | false=>rfl
            | true=>exact absurd ((hneg _).2 q2) h5
          have e:=lexlt_total (hk _) h6 q
          refine absurd ?_ hz
          rw [hh,e]
          have : ∀ m:List Int,F125 (List.zipWith cmpI m m) = 0:=by
            intro m
            induction m with
            | nil=>rfl
            | cons x m ih =>
              rw [List.zipWith_cons_cons,or_cons]
              have:cmpI x x = 0:=by unfold cmpI; simp
              rw [if_pos this]
              exact ih
          exact this K
      refine ⟨false,by rw [decide_eq_false hz],.inr ⟨rfl,hA,fun y hy=>?_⟩,(List.take_append_drop c l).symm⟩
      rw [hd] at hy
      rcases List.mem_cons.1 hy with rfl | hy
      · exact hgt
      · have hs2:Srt k (l.drop c):=List.Pairwise.sublist (List.drop_sublist _ _) hs
        rw [hd] at hs2
        exact lexlt_trans hgt ((List.pairwise_cons.1 hs2).1 y hy)
  · rw [decide_eq_false (show ¬ ((c:Int),(c:Int)).1 < (l.length:Int) by dsimp only; omega),cond_false]
    have hd:l.drop c = []:=List.drop_eq_nil_of_le (by omega)
    exact ⟨false,rfl,.inr ⟨rfl,hA,fun y hy=>by rw [hd] at hy; cases hy⟩,(List.take_append_drop c l).symm⟩
theorem srt_eq {α:Type} {k:α → List Int} : ∀ {a b:List α},Srt k a → Srt k b → (∀ x,x ∈ a ↔ x ∈ b) → a = b
  | [],[],_,_,_=>rfl
  | [],y :: b,_,_,h=>by have:=(h y).2 List.mem_cons_self; cases this
  | x :: a,[],_,_,h=>by have:=(h x).1 List.mem_cons_self; cases this
  | x :: a,y :: b,ha,hb,h=>by
    unfold Srt at ha hb
    rw [List.pairwise_cons] at ha hb
    have irr : ∀ z:α,¬ lexlt (k z) (k z) = true:=fun z q=>by rw [lexlt_irrefl] at q; cases q
    have e:x = y:=by
      rcases List.mem_cons.1 ((h x).1 List.mem_cons_self) with hx | hx
      · exact hx
      · rcases List.mem_cons.1 ((h y).2 List.mem_cons_self) with hy | hy
        · exact hy.symm
        · exact absurd (lexlt_trans (hb.1 x hx) (ha.1 y hy)) (irr y)
    subst e
    rw [srt_eq (k:=k) ha.2 hb.2 fun z=>?_]
    have:=h z
    simp only [List.mem_cons] at this
    constructor
    · intro hz
      rcases this.1 (.inr hz) with rfl | q
      · exact absurd (ha.1 _ hz) (irr _)
      · exact q
    · intro hz
      rcases this.2 (.inr hz) with rfl | q
      · exact absurd (hb.1 _ hz) (irr _)
      · exact q
theorem fil_mid {α:Type} {A B:List α} {x:α} {f:α → Bool} (h:f x = false):(A ++ x :: B).filter f = (A ++ B).filter f:=by
  rw [List.filter_append,List.filter_cons,h,List.filter_append]; rfl
theorem put_set {t:qk} (hs:Srt keyL t.L) (hn:t.L.length < 500) {x:qj} (hx:MayP x) :
    ∃ t':qk,F48 t x = some (t',0) ∧ Srt keyL t'.L ∧ (∀ y,y ∈ t'.L ↔ y = x ∨ (y ∈ t.L ∧ keyL y ≠ keyL x)) ∧ t'.L.length ≤ t.L.length + 1 ∧
      (∀ f:qj → Bool,(∀ z,keyL z = keyL x → f z = false) → t'.L.filter f = t.L.filter f):=by
  obtain ⟨A,B,b,e,h,rfl'⟩:=find_spec (s:=x) (h:=fun y0 y1=>F91 y0 y1) (K:=keyL x) hs (by omega) (fun _=>rfl) (fun a=>byKey_or a x)
  have hl:t.L.length = A.length + B.length:=by rw [rfl']; simp
  have e1:decide (t.L.length < 1099511627776) = true:=by simp; omega
  have e2:decide (500 ≤ (t.L.length:Int)) = false:=by simp; omega
  rw [rfl'] at hs
  unfold F48
  dsimp only
  rw [(may8 x).2 hx,cond_true,bQ90,e,ob_some,e1,cond_true]
  rcases h with ⟨rfl,y,C,rfl,hk⟩ | ⟨rfl,hA,hB⟩
  · have g:=srt_rep hs hk
    dsimp only
    rw [cond_true,rfl',get_at,ob_some,Int.toNat_natCast,lset_at]
    refine ⟨_,rfl,g.1,g.2,by simp,fun f hf=>?_⟩
    rw [fil_mid (hf x rfl),fil_mid (hf y hk)]
  · have g:=srt_ins hs hA hB
    dsimp only
    rw [cond_false,e2,cond_false,decide_eq_true (show (0:Int) ≤ (A.length:Int) by omega),cond_true,decide_eq_true (show (A.length:Int) ≤ (t.L.length:Int) by omega),cond_true,rfl',ins_at]
    refine ⟨_,rfl,g.1,g.2,by simp; omega,fun f hf=>?_⟩
    rw [fil_mid (hf x rfl)]
theorem put_bad {t:qk} {x:qj} (hx : ¬ MayP x):F48 t x = some (t,1):=by
  unfold F48
  have:F89 x = false:=by rw [Bool.eq_false_iff]; exact fun q=>hx ((may8 x).1 q)
  dsimp only
  rw [this,cond_false]
theorem drop_set {t:qk} (hs:Srt keyL t.L) (hn:t.L.length ≤ 500) (x:qj) :
    F74 t x = some (t,false) ∨ ∃ t':qk,F74 t x = some (t',true) ∧ Srt keyL t'.L ∧ (∀ y,y ∈ t'.L ↔ y ∈ t.L ∧ keyL y ≠ keyL x) ∧ t'.L.length ≤ t.L.length ∧
      (∀ f:qj → Bool,(∀ z,keyL z = keyL x → f z = false) → t'.L.filter f = t.L.filter f):=by
  obtain ⟨A,B,b,e,h,rfl'⟩:=find_spec (s:=x) (h:=fun y0 y1=>F91 y0 y1) (K:=keyL x) hs (by omega) (fun _=>rfl) (fun a=>byKey_or a x)
  have hl:t.L.length = A.length + B.length:=by rw [rfl']; simp
  have e1:decide (t.L.length < 1099511627776) = true:=by simp; omega
  rw [rfl'] at hs
  unfold F74
  rw [bQ90,e,ob_some]
  rcases h with ⟨rfl,y,C,rfl,hk⟩ | ⟨rfl,hA,hB⟩
  · right
    have g:=srt_del hs
    simp only [List.length_cons] at hl
    have hw:IntKind.i64.wrap ((A.length:Int) + 1) = (A.length:Int) + 1:=wi64 (by omega) (by omega)
    dsimp only
    rw [cond_true,hw,e1,cond_true,decide_eq_true (show (0:Int) ≤ (A.length:Int) by omega),cond_true,decide_eq_true (show (A.length:Int) ≤ (A.length:Int) + 1 by omega),cond_true,decide_eq_true (show (A.length:Int) + 1 ≤ (t.L.length:Int) by omega),cond_true,rfl',del_at]
    refine ⟨_,rfl,g.1,fun z=>?_,by simp,fun f hf=>by rw [fil_mid (hf y hk)]⟩
    rw [g.2,hk]
  · left
    dsimp only
    rw [cond_false]
def nat_ (l:List qj):List qj:=l.filter (fun c=>!c.Leaked)
theorem idx_none {f:qj → Bool} {l:List qj} (h : ∀ y ∈ l,f y = false):F115 l f = -1:=by
  unfold F115
  rcases idx40_l1 f l 0 with ⟨pre,x,r,e,h1,h3⟩ | ⟨h1,h2⟩
  · have:=h x (by rw [e]; simp)
    rw [this] at h1; cases h1
  · rw [h2]
theorem idx_pre {f:qj → Bool} : ∀ {pre r:List qj} {x:qj} {i:Nat},F115l1 f i (pre ++ x :: r) = .error ((i + pre.length:Nat):Int) → ∀ y ∈ pre,f y = false
  | [],r,x,i,h=>fun y hy=>by cases hy
  | z :: pre,r,x,i,h=>by
    rw [List.cons_append,F115l1] at h
    cases hz:f z with
    | true =>
      rw [hz] at h
      simp at h
      omega
    | false =>
      rw [hz] at h
      simp only [cond_false] at h
      have:=idx_pre (f:=f) (pre:=pre) (r:=r) (x:=x) (i:=i + 1) (by rw [h]; simp; omega)
      intro y hy
      rcases List.mem_cons.1 hy with rfl | hy
      · exact hz
      · exact this y hy
theorem delf_l1 {l:List qj} {f:qj → Bool} (hn:l.length ≤ 900) : ∀ (fuel i j:Nat) (s:List qj),i < j → j ≤ l.length → l.length - j < fuel → s.length = l.length → s.take i = (l.take j).filter (fun x=>!f x) → s.drop j = l.drop j →
    ∃ (i':Nat) (s':List qj),F84l1 f fuel (i:Int) (j:Int) s = some ((i':Int),(l.length:Int),s') ∧ s'.length = l.length ∧ i' < l.length ∧ s'.take i' = l.filter (fun x=>!f x)
  | 0,i,j,s,_,_,hf,_,_,_=>by omega
  | fuel + 1,i,j,s,hij,hj,hf,hs,h1,h2=>by
    unfold F84l1
    by_cases hlt:j < l.length
    · have d:decide ((j:Int) < (s.length:Int)) = true:=by simp; omega
      have hsj:j < s.length:=by omega
      have hx:s[j]? = some s[j]:=List.getElem?_eq_getElem hsj
      have hl:l[j]? = some s[j]:=by
        have e:(s.drop j)[0]? = (l.drop j)[0]?:=by rw [h2]
        rw [List.getElem?_drop,List.getElem?_drop] at e
        rw [Nat.add_zero] at e
        rw [← e]; exact hx
      have htk:(l.take (j + 1)) = l.take j ++ [s[j]]:=by
        rw [List.take_add_one,hl]; rfl
      have hd2:s.drop (j + 1) = l.drop (j + 1):=by
        rw [← List.drop_drop,h2,List.drop_drop]
      rw [d,cond_true,getI_nat hx]
      dsimp only [ob_some]
      have hw:IntKind.i64.wrap ((j:Int) + 1) = ((j + 1:Nat):Int):=by rw [wi64 (by omega) (by omega)]; omega
      rw [hw]
      cases hc:f s[j] with
      | true =>
        rw [cond_true]
        exact delf_l1 hn fuel i (j + 1) s (by omega) (by omega) (by omega) hs (by rw [htk,List.filter_append,← h1]; simp [hc]) hd2
      | false =>
        rw [cond_false,getI_nat (List.getElem?_eq_getElem (show i < s.length by omega))]
        have hwi:IntKind.i64.wrap ((i:Int) + 1) = ((i + 1:Nat):Int):=by rw [wi64 (by omega) (by omega)]; omega
        dsimp only [ob_some]
        rw [hwi,Int.toNat_natCast]
        refine delf_l1 hn fuel (i + 1) (j + 1) (s.set i s[j]) (by omega) (by omega) (by omega) (by simpa using hs) ?_ ?_
        · rw [htk,List.filter_append,← h1,List.take_add_one,List.getElem?_set_self (by omega),List.take_set_of_le (Nat.le_refl _)]
          simp [hc]
        · rw [List.drop_set_of_lt (by omega)]; exact hd2
    · have d:decide ((j:Int) < (s.length:Int)) = false:=by simp; omega
      rw [d,cond_false]
      have hj2:j = l.length:=by omega
      subst hj2
      exact ⟨i,s,rfl,hs,hij,by rw [h1,List.take_length]⟩
theorem delf_eq {l:List qj} (f:qj → Bool) (hn:l.length ≤ 900):F84 l f = some (l.filter (fun x=>!f x)):=by
  unfold F84
  dsimp only
  by_cases hall : ∀ y ∈ l,f y = false
  · rw [idx_none hall]
    have:l.filter (fun x=>!f x) = l:=List.filter_eq_self.2 (fun y hy=>by rw [hall y hy]; rfl)
    rw [this]
    rfl
  · rcases idx40_l1 f l 0 with ⟨pre,x,r,e,h1,h3⟩ | ⟨h1,h2⟩
    · have hpre:F115 l f = (pre.length:Int):=by
        unfold F115
        rw [h3]; simp
      rw [hpre]
      have d:decide ((pre.length:Int) = -1) = false:=by simp
      rw [d,cond_false]
      have hl:l.length = pre.length + (1 + r.length):=by rw [e]; simp; omega
      have hw:IntKind.i64.wrap ((pre.length:Int) + 1) = ((pre.length + 1:Nat):Int):=by rw [wi64 (by omega) (by omega)]; omega
      rw [hw]
      have hnf : ∀ y ∈ pre,f y = false:=(by rw [e] at h3; exact idx_pre h3)
      obtain ⟨i',s',h4,h5,h6,h7⟩:=delf_l1 (l:=l) (f:=f) hn 1000 pre.length (pre.length + 1) l (by omega) (by omega) (by omega) rfl
        (by rw [e,List.take_left,show pre ++ x :: r = (pre ++ [x]) ++ r by simp,List.take_left' (by simp),List.filter_append]
            rw [List.filter_eq_self.2 (fun y hy=>by rw [hnf y hy]; rfl)]; simp [h1]) rfl
      rw [h4]
      dsimp only [ob_some]
      rw [Int.toNat_natCast]
      have d1:decide ((0:Int) ≤ (i':Int)) = true:=by simp
      have d2:decide ((i':Int) ≤ (s'.length:Int)) = true:=by simp; omega
      have d3:decide ((i':Int) < (s'.length:Int)) = true:=by simp; omega
      have tl:(s'.take i').length = i':=by rw [List.length_take]; omega
      rw [d1,cond_true,d2,cond_true,d3,cond_true]
      rw [List.take_left' tl,h7]
      have d4:decide ((i':Int) ≤ ((List.filter (fun x=>!f x) l ++ List.replicate (s'.length - i') (⟨⟨0,0⟩,0,0,0,0,0,false,0,[]⟩ : qj)).length:Int)) = true:=by
        have:(List.filter (fun x=>!f x) l).length = i':=by rw [← h7,tl]
        rw [List.length_append,this]; simp; omega
      rw [d4,cond_true]
    · exact absurd h1 hall
theorem without_eq {t:qk} (f:qj → Bool) (h:t.L.length ≤ 900):F42 t f = some ⟨t.L.filter (fun x=>!f x)⟩:=by
  unfold F42
  rw [delf_eq f h]
  have d:decide (t.L.length < 1099511627776) = true:=by simp; omega
  rw [d]; rfl
def ik (x:zw):List Int:=[x.At,x.P.A,x.P.N]
def pk (c:qj):List Int:=[c.P.A,c.P.N]
theorem ik_inj {x y:zw} (h:ik x = ik y):x = y:=by
  obtain ⟨a,⟨b,c⟩⟩:=x
  obtain ⟨a',⟨b',c'⟩⟩:=y
  unfold ik at h
  simp only [List.cons.injEq,and_true] at h
  obtain ⟨h1,h2,h3⟩:=h
  subst h1 h2 h3
  rfl
theorem pk_eq {c:qj} {p:zy}:pk c = [p.A,p.N] ↔ c.P = p:=by
  unfold pk
  obtain ⟨a,b⟩:=p
  cases h:c.P with
  | mk a' b'=>simp
theorem pk_two {c d:qj}:pk c = pk d ↔ c.P = d.P:=pk_eq
theorem byPlace_or (a b:zw):F105 a b = F125 (List.zipWith cmpI (ik a) (ik b)):=by
  unfold F105
  simp only [cmp49,cmp50]
  rfl
theorem mark1_or (a:qj) (p:zy):F144 a p = F125 (List.zipWith cmpI (pk a) [p.A,p.N]):=by
  unfold F144
  simp only [cmp49,cmp50]
  rfl
theorem todo_set (n:TNet) (hs:Srt ik n.Work) (hn:n.Work.length ≤ 90000) (at1:Int) (p:zy) :
    ∃ w,F68 n at1 p = some ⟨n.T,n.Sel,n.L,w,n.Over⟩ ∧ Srt ik w ∧ (∀ x,x ∈ w ↔ x = ⟨at1,p⟩ ∨ x ∈ n.Work) ∧ w.length ≤ n.Work.length + 1:=by
  obtain ⟨A,B,b,e,h,hl⟩:=find_spec (s:=(⟨at1,p⟩ : zw)) (h:=fun y0 y1=>F105 y0 y1) (K:=ik ⟨at1,p⟩) hs (by omega) (fun _=>rfl) (fun a=>byPlace_or a _)
  have hlen:n.Work.length = A.length + B.length:=by rw [hl]; simp
  unfold F68
  rw [bQ104,e,ob_some]
  rcases h with ⟨rfl,y,C,rfl,hk⟩ | ⟨rfl,hA,hB⟩
  · refine ⟨n.Work,rfl,hs,fun x=>⟨.inr,?_⟩,by omega⟩
    rintro (rfl | q)
    · rw [hl,← ik_inj hk]; simp
    · exact q
  · rw [hl] at hs
    have g:=srt_ins hs hA hB
    dsimp only
    rw [cond_false,decide_eq_true (show (0:Int) ≤ (A.length:Int) by omega),cond_true,decide_eq_true (show (A.length:Int) ≤ (n.Work.length:Int) by omega),cond_true,decide_eq_true (show n.Work.length < 1099511627776 by omega),cond_true,hl,ins_at]
    refine ⟨_,rfl,g.1,fun x=>?_,by simp; omega⟩
    rw [g.2]
    constructor
    · rintro (q | q)
      · exact .inl q
      · exact .inr q.1
    · rintro (q | q)
      · exact .inl q
      · by_cases hx:x = ⟨at1,p⟩
        · exact .inl hx
        · exact .inr ⟨q,fun q2=>hx (ik_inj q2)⟩
theorem mark_set {l:List qj} (hs:Srt pk l) (hn:l.length ≤ 90000) (p:zy) (c:qj) (is:Bool) (hc:is = true → c.P = p) :
    ∃ m,F108 l p c is = some m ∧ Srt pk m ∧ (∀ y,y ∈ m ↔ (is = true ∧ y = c) ∨ (y ∈ l ∧ y.P ≠ p)) ∧ m.length ≤ l.length + 1:=by
  obtain ⟨A,B,b,e,h,hl⟩:=find_spec (s:=p) (h:=fun y0 y1=>F144 y0 y1) (K:=[p.A,p.N]) hs (by omega) (fun _=>rfl) (fun a=>mark1_or a p)
  have hlen:l.length = A.length + B.length:=by rw [hl]; simp
  unfold F108
  rw [bQ143,e,ob_some,decide_eq_true (show l.length < 1099511627776 by omega),cond_true]
  rcases h with ⟨rfl,y,C,rfl,hk⟩ | ⟨rfl,hA,hB⟩
  · dsimp only
    rw [hl] at hs
    rw [cond_true]
    cases is with
    | true =>
      have g:=srt_rep (x:=c) hs (by rw [hk]; exact (pk_eq.2 (hc rfl)).symm)
      rw [cond_true,hl,get_at,ob_some,Int.toNat_natCast,lset_at]
      refine ⟨_,rfl,g.1,fun z=>?_,by simp⟩
      rw [g.2,ne_eq,ne_eq,pk_two,hc rfl]
      simp
    | false =>
      have g:=srt_del hs
      simp only [List.length_cons] at hlen
      have hw:IntKind.i64.wrap ((A.length:Int) + 1) = (A.length:Int) + 1:=wi64 (by omega) (by omega)
      rw [cond_false,hw,decide_eq_true (show (0:Int) ≤ (A.length:Int) by omega),cond_true,decide_eq_true (show (A.length:Int) ≤ (A.length:Int) + 1 by omega),cond_true,decide_eq_true (show (A.length:Int) + 1 ≤ (l.length:Int) by omega),cond_true,hl,del_at]
      refine ⟨_,rfl,g.1,fun z=>?_,by simp; omega⟩
      rw [g.2,ne_eq,ne_eq,pk_two,pk_eq.1 hk]
      simp
  · dsimp only
    rw [cond_false]
    have hno : ∀ z ∈ l,z.P ≠ p:=fun z hz q=>by
      rw [hl] at hz
      have:=pk_eq.2 q
      rcases List.mem_append.1 hz with hz | hz
      · exact lex_ne (hA z hz) this
      · exact lex_ne (hB z hz) this.symm
    cases is with
    | true =>
      rw [hl] at hs
      have e2:=pk_eq.2 (hc rfl)
      have g:=srt_ins (x:=c) hs (by rw [e2]; exact hA) (by rw [e2]; exact hB)
      rw [cond_true,decide_eq_true (show (0:Int) ≤ (A.length:Int) by omega),cond_true,decide_eq_true (show (A.length:Int) ≤ (l.length:Int) by omega),cond_true,hl,ins_at]
      refine ⟨_,rfl,g.1,fun z=>?_,by simp; omega⟩
      rw [g.2,ne_eq,ne_eq,pk_two,hc rfl]
      simp
    | false =>
      refine ⟨l,rfl,hs,fun z=>⟨fun q=>.inr ⟨q,hno z q⟩,?_⟩,by omega⟩
      rintro (⟨q,_⟩ | q)
      · cases q
      · exact q.1
theorem cpy_eq {α:Type} {L X:List α} (h:L.length = X.length):cpy_ L X = X:=by
  unfold cpy_
  rw [h,List.take_length,← h,List.drop_length,List.append_nil]
theorem own_eq {n:TNet} (h1:1 ≤ n.T.length ∧ n.T.length ≤ 6) (h2:n.Sel.length = n.T.length) (h3:n.L.length ≤ 1000) (h4:n.Work.length ≤ 90000):F41 n = some n:=by
  unfold F41
  rw [cpy_eq (by simp),cpy_eq (by simp)]
  simp only [List.length_replicate]
  rw [decide_eq_true (show (0:Int) ≤ (n.T.length:Int) by omega),decide_eq_true (show (n.T.length:Int) < 1099511627776 by omega),decide_eq_true (show (0:Int) ≤ (n.Sel.length:Int) by omega),decide_eq_true (show (n.Sel.length:Int) < 1099511627776 by omega),decide_eq_true (show n.L.length < 1099511627776 by omega),decide_eq_true (show n.Work.length < 1099511627776 by omega),decide_eq_true (show (0:Int) < (n.T.length:Int) by omega),decide_eq_true (show (0:Int) < (n.Sel.length:Int) by omega)]
  rfl
structure TK (t:qk):Prop where
  may : ∀ x ∈ t.L,MayP x
  srt:Srt keyL t.L
  len:t.L.length ≤ 500
theorem TK.fil {t:qk} (h:TK t) (f:qj → Bool):TK ⟨t.L.filter f⟩ :=
  ⟨fun x hx=>h.may x (List.mem_filter.1 hx).1,h.srt.sublist List.filter_sublist,Nat.le_trans (List.length_filter_le _ _) h.len⟩
theorem TK.hop {t:qk} (h:TK t) : ∀ c ∈ t.L,1 ≤ c.Hops.length:=fun c hc=>by have:=(h.may c hc).hops; omega
theorem countsK {t:qk} (h:TK t) : ∃ liv all,Counts t liv all:=by
  obtain ⟨liv,hl⟩:=livesL_some h.hop t.L fun c hc=>by have:=(h.may c hc).hops; omega
  have hs:=hl.srt (List.Pairwise.imp (fun {a b} (q:Kl a b)=>q.ple) h.srt)
  have hlen:=hl.len
  have hle:=h.len
  obtain ⟨all,e,k1,k2⟩:=all_l1 liv [] [] ⟨fun e h=>(by cases h),fun d h=>(by cases h),.nil⟩ (by simpa using hs) (by simp) (by simp; omega)
  refine ⟨liv,all,hl,?_,by simpa using k1⟩
  unfold allO
  rw [hl.eq]
  exact e
def dir_ (l:List qj):List qj:=l.filter fun c=>decide (c.Proto = 0) && !c.Leaked
def rsv (g:Int):Option qj → List qj → Option qj
  | a,[]=>a
  | a,x :: l=>rsv g (if F167 x.P g then (match a with
    | none=>some x
    | some y=>if y.P.N < x.P.N then some x else some y) else a) l
theorem rsv_l1 {t:qk} {h:THop} : ∀ (l pre:List qj) (at6:Int) (a:Option qj),t.L = pre ++ l → ((at6 = -1 ∧ a = none) ∨ ∃ j:Nat,at6 = j ∧ ∃ x,t.L[j]? = some x ∧ a = some x) →
    ∃ r,F148l1 t h at6 pre.length l = some r ∧ ((r = -1 ∧ rsv h.Gate a (dir_ l) = none) ∨ ∃ j:Nat,r = j ∧ ∃ x,t.L[j]? = some x ∧ rsv h.Gate a (dir_ l) = some x)
  | [],pre,at6,a,_,ha=>⟨at6,by rw [F148l1],ha⟩
  | x :: l,pre,at6,a,hl,ha=>by
    have ih:=fun at7 b=>rsv_l1 (t:=t) (h:=h) l (pre ++ [x]) at7 b (by rw [hl]; simp)
    rw [show (pre ++ [x]).length = pre.length + 1 by simp] at ih
    have hx:t.L[pre.length]? = some x:=by rw [hl]; simp
    rw [F148l1]
    unfold dir_
    rw [List.filter_cons]
    by_cases h0:x.Proto = 0
    · cases hk:x.Leaked with
      | true =>
        rw [decide_eq_true h0,cond_true,cond_true]
        exact ih _ _ ha
      | false =>
        rw [decide_eq_true h0,cond_true,cond_false]
        simp only [Bool.not_false,Bool.and_self,if_true,rsv]
        cases hh:F167 x.P h.Gate with
        | false =>
          rw [cond_false]
          simp only [Bool.false_eq_true,if_false]
          exact ih _ _ ha
        | true =>
          rw [cond_true]
          simp only [if_true]
          rcases ha with ⟨rfl,rfl⟩ | ⟨j,rfl,y,hy,rfl⟩
          · exact ih _ _ (.inr ⟨_,rfl,x,hx,rfl⟩)
          · rw [decide_eq_false (show ¬ (j:Int) < 0 by omega),cond_false,getI_nat hy,ob_some]
            dsimp only
            by_cases hn:y.P.N < x.P.N
            · rw [decide_eq_true hn,cond_true,if_pos hn]
              exact ih _ _ (.inr ⟨_,rfl,x,hx,rfl⟩)
            · rw [decide_eq_false hn,cond_false,if_neg hn]
              exact ih _ _ (.inr ⟨_,rfl,y,hy,rfl⟩)
    · rw [decide_eq_false h0,cond_false]
      exact ih _ _ ha
def rs (l:List qj) (h:THop):THop × Bool:=if h.Gate = 0 then (h,true) else match rsv h.Gate none l with
  | none=>(⟨0,0⟩,false)
  | some c=>(⟨(c.Hops.headD ⟨0,0⟩).Iface,h.Gate⟩,true)
theorem resolve_eq {t:qk} (hT : ∀ c ∈ t.L,1 ≤ c.Hops.length) (h:THop):F148 t h = some (rs (dir_ t.L) h):=by
  unfold F148 rs
  by_cases h0:h.Gate = 0
  · rw [decide_eq_true h0,cond_true,if_pos h0]
  · rw [decide_eq_false h0,cond_false,if_neg h0]
    obtain ⟨r,e,hr⟩:=rsv_l1 (t:=t) (h:=h) t.L [] (-1) none rfl (.inl ⟨rfl,rfl⟩)
    have e:F148l1 t h (-1) 0 t.L = some r:=e
    rw [e,ob_some]
    rcases hr with ⟨rfl,h2⟩ | ⟨j,rfl,x,hx,h2⟩
    · rw [h2]
      rfl
    · rw [h2,decide_eq_false (show ¬ (j:Int) < 0 by omega),cond_false,getI_nat hx,ob_some]
      have hh:=hT x (List.mem_of_getElem? hx)
      cases hs:x.Hops with
      | nil=>rw [hs] at hh; simp at hh
      | cons y r =>
        have:getI (y :: r) 0 = some y:=getI_nat (i:=0) rfl
        rw [this,ob_some]
        dsimp only
        rw [hs]
        rfl
def Liv (t:qk) (c e:qj):Prop:=F117 t c = some (e,true)
theorem lives_l1c {t t':qk} (hT : ∀ c ∈ t.L,1 ≤ c.Hops.length) (hT' : ∀ c ∈ t'.L,1 ≤ c.Hops.length) (hd:dir_ t.L = dir_ t'.L) : ∀ (l out:List THop),F117l1 t out l = F117l1 t' out l
  | [],out=>by rw [F117l1,F117l1]
  | x :: l,out=>by
    rw [F117l1,F117l1,resolve_eq hT,resolve_eq hT',hd]
    simp only [lives_l1c hT hT' hd l]
theorem liv_dir {t t':qk} (hT : ∀ c ∈ t.L,1 ≤ c.Hops.length) (hT' : ∀ c ∈ t'.L,1 ≤ c.Hops.length) (hd:dir_ t.L = dir_ t'.L) (c e:qj):Liv t c e ↔ Liv t' c e:=by
  unfold Liv F117
  rw [lives_l1c hT hT' hd]
theorem liv_self {t:qk} {c e:qj} (h:c.Proto ≠ 1 ∨ c.Leaked = true):Liv t c e ↔ e = c:=by
  unfold Liv F117
  rcases h with h | h
  · rw [decide_eq_false h,cond_false]
    simp [eq_comm]
  · rw [h,cond_true]
    cases decide (c.Proto = 1) <;> simp [eq_comm]
theorem lives_l1n {t:qk} : ∀ (l out:List THop) (o:List THop),F117l1 t out l = some o → o.length ≤ out.length + l.length
  | [],out,o,h=>by
    rw [F117l1] at h
    injection h with h
    subst h
    simp
  | x :: l,out,o,h=>by
    rw [F117l1] at h
    rw [List.length_cons]
    cases hr:F148 t x with
    | none=>rw [hr] at h; cases h
    | some r =>
      rw [hr,ob_some] at h
      cases hb:r.2 with
      | true =>
        rw [hb,cond_true] at h
        cases hd:decide (out.length < 1099511627776) with
        | true =>
          rw [hd,cond_true] at h
          have:=lives_l1n l _ o h
          simp at this
          omega
        | false=>rw [hd] at h; cases h
      | false =>
        rw [hb,cond_false] at h
        have:=lives_l1n l _ o h
        omega
theorem liv_same {t:qk} {c e:qj} (h:Liv t c e) (hc:1 ≤ c.Hops.length) : ∃ hs:List THop,e = ⟨c.P,c.Proto,c.Inst,c.Dist,c.Metric,c.Tag,c.Leaked,c.From,hs⟩ ∧ 1 ≤ hs.length ∧ hs.length ≤ c.Hops.length:=by
  by_cases h0:c.Proto ≠ 1 ∨ c.Leaked = true
  · rw [liv_self h0] at h
    subst h
    exact ⟨e.Hops,rfl,hc,Nat.le_refl _⟩
  · have h1:c.Proto = 1:=Decidable.byContradiction fun q=>h0 (.inl q)
    have h2:c.Leaked = false:=by rw [Bool.eq_false_iff]; exact fun q=>h0 (.inr q)
    unfold Liv F117 at h
    rw [decide_eq_true h1,cond_true,h2,cond_false] at h
    cases hl:F117l1 t [] c.Hops with
    | none=>rw [hl] at h; cases h
    | some o =>
      have hn:=lives_l1n _ _ _ hl
      rw [hl,ob_some] at h
      cases hz:decide ((o.length:Int) = 0) with
      | true=>rw [hz,cond_true] at h; cases h
      | false =>
        rw [hz,cond_false] at h
        injection h with h
        injection h with h _
        have hz:=of_decide_eq_false hz
        refine ⟨o,by rw [← h,h2],by omega,by simpa using hn⟩
theorem liv_P {t:qk} {c e:qj} (h:Liv t c e) (hc:1 ≤ c.Hops.length):e.P = c.P ∧ e.Dist = c.Dist ∧ e.Leaked = c.Leaked ∧ rankL e = rankL c ∧ keyL e = keyL c:=by
  obtain ⟨hs,rfl,_⟩:=liv_same h hc
  exact ⟨rfl,rfl,rfl,rfl,rfl⟩
theorem liv_fun {t:qk} {c e e':qj} (h:Liv t c e) (h':Liv t c e'):e = e':=by
  unfold Liv at h h'
  rw [h] at h'
  injection h' with h'
  injection h' with h'
def bst (t:qk) (p:zy):Option qj:=match F107 t p with
  | some (c,true)=>some c
  | _=>none
theorem bst_eq {t:qk} (h:TK t) (p:zy):(∃ c,bst t p = some c ∧ F107 t p = some (c,true)) ∨ (bst t p = none ∧ F107 t p = some (zC,false)):=by
  obtain ⟨liv,all,hc⟩:=countsK h
  rcases best_spec hc.eq p with ⟨e,_,_,h1⟩ | ⟨_,h1⟩
  · exact .inl ⟨e,by unfold bst; rw [h1],h1⟩
  · exact .inr ⟨by unfold bst; rw [h1],h1⟩
theorem bst_iff {t:qk} (h:TK t) (p:zy) (e:qj):bst t p = some e ↔ e.P = p ∧ (∃ c ∈ t.L,Liv t c e) ∧ ∀ d ∈ t.L,∀ y,Liv t d y → d.P = p → F87 y e = false:=by
  obtain ⟨liv,all,hc⟩:=countsK h
  have key : ∀ e' ∈ all,e'.P = p → (∃ c ∈ t.L,Liv t c e') ∧ ∀ d ∈ t.L,∀ y,Liv t d y → d.P = p → F87 y e' = false:=by
    intro e' he hp
    obtain ⟨c,h1,h2,_⟩:=hc.lv.mem e' (hc.al.mem e' he)
    refine ⟨⟨c,h1,h2⟩,fun d hd y hy hdp=>?_⟩
    obtain ⟨e2,g1,g2,g3⟩:=hc.al.cov y (hc.lv.cov d hd y hy)
    have hyP:=(liv_P hy (h.hop d hd)).1
    rw [all_one hc.al.srt he g1 (by rw [hp,g2,hyP,hdp])]
    exact g3
  constructor
  · intro hb
    rcases best_spec hc.eq p with ⟨x,hx,hxp,h1⟩ | ⟨_,h1⟩
    · have:bst t p = some x:=by unfold bst; rw [h1]
      rw [this] at hb
      injection hb with hb
      subst hb
      exact ⟨hxp,key x hx hxp⟩
    · have:bst t p = none:=by unfold bst; rw [h1]
      rw [this] at hb
      cases hb
  · rintro ⟨hp,⟨c,hcm,hl⟩,hbest⟩
    have hcP:=liv_P hl (h.hop c hcm)
    obtain ⟨e',g1,g2,g3⟩:=hc.al.cov e (hc.lv.cov c hcm e hl)
    rw [hp] at g2
    obtain ⟨⟨c',hc',hl'⟩,_⟩:=key e' g1 g2
    have hcP':=liv_P hl' (h.hop c' hc')
    have h2:=hbest c' hc' e' hl' (by rw [← hcP'.1,g2])
    rw [better_lex] at h2 g3
    have er:rankL e = rankL e':=lexlt_total rfl g3 h2
    have ek:keyL c = keyL c':=by
      rw [← hcP.2.2.2.2,← hcP'.2.2.2.2]
      unfold rankL at er
      simp only [List.cons.injEq,and_true] at er
      obtain ⟨_,e2,e3,_,e5,e6⟩:=er
      unfold keyL
      rw [hp,g2,e2,e3,e5,e6]
    have:=srt_one h.srt hcm hc' ek
    subst this
    have:=liv_fun hl hl'
    subst this
    rcases best_spec hc.eq p with ⟨x,hx,hxp,h1⟩ | ⟨hno,h1⟩
    · rw [all_one hc.al.srt g1 hx (by rw [hp,hxp])]
      unfold bst; rw [h1]
    · exact absurd hp (hno e g1)
theorem bst_congr {t t':qk} (h:TK t) (h':TK t') (p:zy) (hm : ∀ c,c.P = p → (c ∈ t.L ↔ c ∈ t'.L)) (hl : ∀ c ∈ t.L,c.P = p → ∀ e,Liv t c e ↔ Liv t' c e):bst t p = bst t' p:=by
  have key : ∀ e,bst t p = some e ↔ bst t' p = some e:=by
    intro e
    rw [bst_iff h,bst_iff h']
    refine and_congr_right fun hp=>and_congr ?_ ?_
    · constructor
      · rintro ⟨c,hc,hlc⟩
        have hcp:c.P = p:=by rw [← (liv_P hlc (h.hop c hc)).1,hp]
        exact ⟨c,(hm c hcp).1 hc,(hl c hc hcp e).1 hlc⟩
      · rintro ⟨c,hc,hlc⟩
        have hcp:c.P = p:=by rw [← (liv_P hlc (h'.hop c hc)).1,hp]
        have:=(hm c hcp).2 hc
        exact ⟨c,this,(hl c this hcp e).2 hlc⟩
    · constructor
      · intro g d hd y hy hdp
        have:=(hm d hdp).2 hd
        exact g d this y ((hl d this hdp y).2 hy) hdp
      · intro g d hd y hy hdp
        exact g d ((hm d hdp).1 hd) y ((hl d hd hdp y).1 hy) hdp
  cases hb:bst t p with
  | some e=>exact ((key e).1 hb).symm
  | none =>
    cases hb':bst t' p with
    | none=>rfl
    | some e=>rw [(key e).2 hb'] at hb; cases hb
def nt_ (t:qk):qk:=⟨nat_ t.L⟩
def nb (t:qk) (p:zy):Option qj:=bst (nt_ t) p
def op (t:qk) (p:zy):Option qj:=match bst t p with
  | some c=>if c.Leaked = true then none else some c
  | none=>none
theorem mem_nt {t:qk} {c:qj}:c ∈ (nt_ t).L ↔ c ∈ t.L ∧ c.Leaked = false:=by
  unfold nt_ nat_
  rw [List.mem_filter]
  cases c.Leaked <;> simp
theorem dir_nt (t:qk):dir_ (nt_ t).L = dir_ t.L:=by
  unfold dir_ nt_ nat_
  rw [List.filter_filter]
  refine List.filter_congr fun c _=>?_
  cases c.Leaked <;> simp
theorem TK.nt {t:qk} (h:TK t):TK (nt_ t):=h.fil _
theorem op_some {t:qk} {p:zy} {c:qj}:op t p = some c ↔ bst t p = some c ∧ c.Leaked = false:=by
  unfold op
  cases hb:bst t p with
  | none=>simp
  | some e =>
    dsimp only
    cases hk:e.Leaked with
    | true =>
      simp only [if_true]
      constructor
      · intro q; cases q
      · rintro ⟨q,q2⟩
        injection q with q
        subst q
        rw [hk] at q2; cases q2
    | false =>
      simp only [Bool.false_eq_true,if_false]
      constructor
      · intro q
        injection q with q
        subst q
        exact ⟨rfl,hk⟩
      · exact fun q=>q.1
theorem nb_native {t:qk} (h:TK t) {p:zy} {c:qj} (hb:nb t p = some c):c.Leaked = false ∧ c.P = p:=by
  obtain ⟨h1,⟨d,hd,hl⟩,_⟩:=(bst_iff h.nt p c).1 hb
  exact ⟨by rw [(liv_P hl (h.nt.hop d hd)).2.2.1]; exact (mem_nt.1 hd).2,h1⟩
theorem op_nb {t:qk} (h:TK t) (p:zy) (c:qj):op t p = some c ↔ nb t p = some c ∧ ∀ y ∈ t.L,y.Leaked = true → y.P = p → c.Dist ≤ y.Dist:=by
  have hL : ∀ d e,Liv (nt_ t) d e ↔ Liv t d e:=liv_dir h.nt.hop h.hop (dir_nt t)
  have bl : ∀ y c:qj,y.Leaked = true → c.Leaked = false → (F87 y c = false ↔ c.Dist ≤ y.Dist):=by
    intro y c hy hc
    rw [better_lex]
    unfold rankL lkN
    rw [hy,hc,lexlt]
    by_cases h1:y.Dist < c.Dist
    · rw [if_pos h1]
      constructor
      · intro q; cases q
      · intro q; omega
    · rw [if_neg h1]
      constructor
      · intro _; omega
      · intro _
        by_cases h2:c.Dist < y.Dist
        · rw [if_pos h2]
        · rw [if_neg h2,lexlt]
          simp
  rw [op_some]
  unfold nb
  rw [bst_iff h,bst_iff h.nt]
  constructor
  · rintro ⟨⟨hp,⟨d,hd,hl⟩,hb⟩,hk⟩
    have hdl:=(liv_P hl (h.hop d hd)).2.2.1
    refine ⟨⟨hp,⟨d,mem_nt.2 ⟨hd,by rw [← hdl,hk]⟩,(hL d c).2 hl⟩,fun x hx y hy hxp=>hb x (mem_nt.1 hx).1 y ((hL x y).1 hy) hxp⟩,fun y hy hyl hyp=>?_⟩
    exact (bl y c hyl hk).1 (hb y hy y ((liv_self (.inr hyl)).2 rfl) hyp)
  · rintro ⟨⟨hp,⟨d,hd,hl⟩,hb⟩,hk⟩
    have hd:=mem_nt.1 hd
    have hl:=(hL d c).1 hl
    have hcl:c.Leaked = false:=by rw [(liv_P hl (h.hop d hd.1)).2.2.1]; exact hd.2
    refine ⟨⟨hp,⟨d,hd.1,hl⟩,fun x hx y hy hxp=>?_⟩,hcl⟩
    cases hxl:x.Leaked with
    | false=>exact hb x (mem_nt.2 ⟨hx,hxl⟩) y ((hL x y).2 hy) hxp
    | true =>
      have:=(liv_self (.inr hxl)).1 hy
      subst this
      exact (bl y c hxl hcl).2 (hk y hx hxl hxp)
def tel (x:zz) (c:qj):Option qj:=if (F88 x.Map ⟨c.P,c.Proto,min_ c.Metric 16777215,c.Tag⟩).2.1 = true then some ⟨c.P,c.Proto,c.Inst,c.Dist,c.Metric,c.Tag,true,x.From,c.Hops⟩ else none
def told (x:zz) (t:qk) (p:zy):Option qj:=match op t p with
  | some c=>tel x c
  | none=>none
theorem told_op {x:zz} {t:qk} {p:zy} {y:qj}:told x t p = some y ↔ ∃ c,op t p = some c ∧ tel x c = some y:=by
  unfold told
  cases op t p <;> simp
theorem tel_eq {x:zz} {c y:qj} (h:tel x c = some y):y = ⟨c.P,c.Proto,c.Inst,c.Dist,c.Metric,c.Tag,true,x.From,c.Hops⟩:=by
  unfold tel at h
  split at h
  · injection h with h
    exact h.symm
  · cases h
theorem told_eq {x:zz} {t:qk} (h:TK t) {p:zy} {y:qj} (ht:told x t p = some y):y.Leaked = true ∧ y.From = x.From ∧ y.P = p ∧ ∃ c,op t p = some c ∧ nb t p = some c ∧ y.Dist = c.Dist ∧ y = ⟨c.P,c.Proto,c.Inst,c.Dist,c.Metric,c.Tag,true,x.From,c.Hops⟩:=by
  obtain ⟨c,h1,h2⟩:=told_op.1 ht
  have h2:=tel_eq h2
  have h3:=((op_nb h p c).1 h1).1
  have h4:=(nb_native h h3).2
  exact ⟨by rw [h2],by rw [h2],by rw [h2]; exact h4,c,h1,h3,by rw [h2],h2⟩
theorem told_may {x:zz} {t:qk} (h:TK t) {p:zy} {y:qj} (ht:told x t p = some y) (hx:0 ≤ x.From ∧ x.From ≤ 31):MayP y:=by
  obtain ⟨_,_,_,c,h1,h2,_,rfl⟩:=told_eq h ht
  obtain ⟨_,⟨d,hd,hl⟩,_⟩:=(bst_iff h.nt p c).1 h2
  obtain ⟨hs,rfl,g1,g2⟩:=liv_same hl (h.nt.hop d hd)
  have m:=h.nt.may d hd
  have:=m.hops
  exact ⟨m.p,m.proto,m.inst,m.metric,hx,by dsimp only; omega,.inl rfl,m.d0,m.d1⟩
theorem tells_told {x:zz} {t:qk} (h:TK t) {p:zy} {c:qj} {is:Bool} (hb:F107 t p = some (c,is)) : ∃ d b,F47 x c = some (d,b) ∧ told x t p = if b = true ∧ is = true then some d else none:=by
  unfold F47
  rcases he:F88 x.Map ⟨c.P,c.Proto,min_ c.Metric 16777215,c.Tag⟩ with ⟨a,ok,f⟩
  dsimp only
  unfold told op
  rcases bst_eq h p with ⟨e,h1,h2⟩ | ⟨h1,h2⟩
  · rw [h2] at hb
    injection hb with hb
    injection hb with hb1 hb2
    subst hb1 hb2
    rw [h1]
    dsimp only
    cases hk:e.Leaked with
    | true=>exact ⟨_,_,rfl,by simp⟩
    | false =>
      have hte:tel x e = if ok = true then some ⟨e.P,e.Proto,e.Inst,e.Dist,e.Metric,e.Tag,true,x.From,e.Hops⟩ else none:=by unfold tel; rw [he]
      cases ok with
      | true=>exact ⟨_,_,rfl,by simp [hte]⟩
      | false=>exact ⟨_,_,rfl,by simp [hte]⟩
  · rw [h2] at hb
    injection hb with hb
    injection hb with hb1 hb2
    subst hb1 hb2
    rw [h1]
    cases ok <;> exact ⟨_,_,rfl,by simp⟩
theorem eqH_l1 {b:List THop} : ∀ (rest pre suf:List THop),b = pre ++ suf → rest.length = suf.length → (F97l1 b pre.length rest = .ok () ∧ rest = suf) ∨ (F97l1 b pre.length rest = .error false ∧ rest ≠ suf)
  | [],pre,suf,_,hl=>.inl ⟨rfl,(List.length_eq_zero_iff.1 hl.symm).symm⟩
  | x :: rest,pre,[],_,hl=>by simp at hl
  | x :: rest,pre,y :: suf,he,hl=>by
    rw [F97l1]
    have hx:b.getD pre.length default = y:=by rw [he]; simp
    rw [hx]
    by_cases hxy:x = y
    · subst hxy
      simp only [decide_true,Bool.and_true,cond_true]
      rw [show pre.length + 1 = (pre ++ [x]).length by simp]
      rcases eqH_l1 (b:=b) rest (pre ++ [x]) suf (by rw [he]; simp) (by simpa using hl) with ⟨h1,h2⟩ | ⟨h1,h2⟩
      · exact .inl ⟨h1,by rw [h2]⟩
      · exact .inr ⟨h1,by simpa using h2⟩
    · right
      have:(decide (x.Iface = y.Iface) && (decide (x.Gate = y.Gate) && true)) = false:=by
        rw [Bool.eq_false_iff]
        intro q
        simp at q
        obtain ⟨a,b⟩:=x
        obtain ⟨a',b'⟩:=y
        simp at q hxy
        exact hxy q.1 q.2
      rw [this]
      exact ⟨rfl,by simp [hxy]⟩
theorem eqH (a b:List THop):F97 a b = decide (a = b):=by
  unfold F97
  by_cases hl:a.length = b.length
  · rw [decide_eq_true (show (a.length:Int) = (b.length:Int) by omega),Bool.true_and]
    rcases eqH_l1 (b:=b) a [] b rfl hl with ⟨h1,h2⟩ | ⟨h1,h2⟩
    · rw [show F97l1 b 0 a = .ok () from h1,decide_eq_true h2]
    · rw [show F97l1 b 0 a = .error false from h1,decide_eq_false h2]
  · rw [decide_eq_false (show ¬ (a.length:Int) = (b.length:Int) by omega),Bool.false_and]
    exact (decide_eq_false (fun q=>hl (by rw [q]))).symm
theorem alike_iff (a b:qj):F57 a b = true ↔ a = b:=by
  unfold F57
  rw [eqH]
  obtain ⟨⟨a0,a1⟩,a2,a3,a4,a5,a6,a7,a8,a9⟩:=a
  obtain ⟨⟨b0,b1⟩,b2,b3,b4,b5,b6,b7,b8,b9⟩:=b
  simp
  intros
  exact and_comm
theorem eq56_l1 {b:List qj} : ∀ (rest pre suf:List qj),b = pre ++ suf → rest.length = suf.length → (F56l1 b (fun y0 y1=>F57 y0 y1) pre.length rest = .ok () ∧ rest = suf) ∨ (F56l1 b (fun y0 y1=>F57 y0 y1) pre.length rest = .error false ∧ rest ≠ suf)
  | [],pre,suf,_,hl=>.inl ⟨rfl,(List.length_eq_zero_iff.1 hl.symm).symm⟩
  | x :: rest,pre,[],_,hl=>by simp at hl
  | x :: rest,pre,y :: suf,he,hl=>by
    rw [F56l1]
    have hx:b.getD pre.length default = y:=by rw [he]; simp
    rw [hx]
    have ey:(⟨y.P,y.Proto,y.Inst,y.Dist,y.Metric,y.Tag,y.Leaked,y.From,y.Hops⟩ : qj) = y:=rfl
    rw [ey]
    cases hal:F57 x y with
    | true =>
      have:=(alike_iff x y).1 hal
      subst this
      rw [cond_true,show pre.length + 1 = (pre ++ [x]).length by simp]
      rcases eq56_l1 (b:=b) rest (pre ++ [x]) suf (by rw [he]; simp) (by simpa using hl) with ⟨h1,h2⟩ | ⟨h1,h2⟩
      · exact .inl ⟨h1,by rw [h2]⟩
      · exact .inr ⟨h1,by simpa using h2⟩
    | false =>
      right
      have hne:x ≠ y:=fun q=>by rw [(alike_iff x y).2 q] at hal; cases hal
      exact ⟨rfl,by simp [hne]⟩
theorem eq56 (a b:List qj):F56 a b (fun y0 y1=>F57 y0 y1) = decide (a = b):=by
  unfold F56
  by_cases hl:a.length = b.length
  · rw [decide_eq_true (show (a.length:Int) = (b.length:Int) by omega),Bool.true_and]
    rcases eq56_l1 (b:=b) a [] b rfl hl with ⟨h1,h2⟩ | ⟨h1,h2⟩
    · rw [show F56l1 b (fun y0 y1=>F57 y0 y1) 0 a = .ok () from h1,decide_eq_true h2]
    · rw [show F56l1 b (fun y0 y1=>F57 y0 y1) 0 a = .error false from h1,decide_eq_false h2]
  · rw [decide_eq_false (show ¬ (a.length:Int) = (b.length:Int) by omega),Bool.false_and]
    exact (decide_eq_false (fun q=>hl (by rw [q]))).symm
def tT (T:List qk) (j:Int):qk:=T.getD j.toNat ⟨[]⟩
def In (s:Nat) (j:Int):Prop:=0 ≤ j ∧ j < (s:Int)
theorem tT_get {T:List qk} {s:Nat} (h:T.length = s) {j:Int} (hj:In s j):getI T j = some (tT T j):=by
  unfold Abs.getI tT
  have:j.toNat < T.length:=by have:=hj.1; have:=hj.2; omega
  rw [if_pos hj.1,List.getElem?_eq_getElem this,List.getD_eq_getElem?_getD,List.getElem?_eq_getElem this]
  rfl
theorem tT_set {T:List qk} {s:Nat} (h:T.length = s) {i j:Int} (hi:In s i) (hj:In s j) (t:qk):tT (T.set i.toNat t) j = if j = i then t else tT T j:=by
  unfold tT
  have h1:i.toNat < T.length:=by have:=hi.1; have:=hi.2; omega
  rw [List.getD_eq_getElem?_getD,List.getElem?_set,List.getD_eq_getElem?_getD]
  by_cases q:j = i
  · subst q
    rw [if_pos rfl,if_pos h1,if_pos rfl]
    rfl
  · have : ¬ i.toNat = j.toNat:=by have:=hi.1; have:=hj.1; omega
    rw [if_neg this,if_neg q]
def Fr (i:Int) (p:zy) (y:qj):Prop:=y.Leaked = true ∧ y.From = i ∧ y.P = p
theorem key_part {y d:qj} (h:keyL y = keyL d):y.P = d.P ∧ y.Leaked = d.Leaked ∧ y.From = d.From ∧ y.Proto = d.Proto:=by
  unfold keyL lkN at h
  simp only [List.cons.injEq,and_true] at h
  obtain ⟨h1,h2,h3,h4,h5,h6⟩:=h
  refine ⟨?_,?_,h4,h5⟩
  · cases hy:y.P; cases hd:d.P
    rw [hy,hd] at h1 h2
    simp only at h1 h2
    rw [h1,h2]
  · cases hy:y.Leaked <;> cases hd:d.Leaked <;> rw [hy,hd] at h3 <;> simp at h3 <;> rfl
theorem isFr (y:qj) (i:Int) (p:zy):(!F109 y i p) = true ↔ ¬ Fr i p y:=by
  unfold F109 F46 Fr
  dsimp only
  rw [peq]
  cases y.Leaked <;> simp [Decidable.imp_iff_not_or]
structure Up (t:qk) (i:Int) (p:zy) (o:Option qj) (t':qk):Prop where
  srt:Srt keyL t'.L
  mem : ∀ y,y ∈ t'.L ↔ (y ∈ t.L ∧ ¬ Fr i p y) ∨ o = some y
theorem do_l1 {s:Nat} {i:Int} {p:zy} {c:qj × Bool} {ti:qk} (hti:TK ti) (hb:F107 ti p = some c) (hi:0 ≤ i ∧ i ≤ 31) (S:List (List qj)) (L0:List zz) :
    ∀ (l:List zz) (T:List qk) (W:List zw),T.length = s → (∀ x ∈ l,x.From = i → In s x.To ∧ TK (tT T x.To) ∧ (tT T x.To).L.length < 500) →
      l.Pairwise (fun a b=>¬ (a.From = b.From ∧ a.To = b.To)) → Srt ik W → W.length + l.length ≤ 90000 →
    ∃ T' W',F71l1 i p c c.2 ⟨T,S,L0,W,false⟩ l = some (c.2,⟨T',S,L0,W',false⟩) ∧ T'.length = s ∧ Srt ik W' ∧
      (∀ j,In s j → (∃ x ∈ l,x.From = i ∧ x.To = j ∧ Up (tT T j) i p (told x ti p) (tT T' j)) ∨ ((∀ x ∈ l,x.From = i → x.To ≠ j) ∧ tT T' j = tT T j)) ∧
      (∀ w,w ∈ W' ↔ w ∈ W ∨ ∃ j,In s j ∧ w = ⟨j,p⟩ ∧ tT T' j ≠ tT T j)
  | [],T,W,hT,_,_,hW,_=>⟨T,W,rfl,hT,hW,fun j _=>.inr ⟨fun x hx=>(by cases hx),rfl⟩,fun w=>⟨.inl,by
      rintro (h | ⟨j,_,_,h⟩)
      · exact h
      · exact absurd rfl h⟩⟩
  | x :: l,T,W,hT,hx,hp,hW,hn=>by
    rw [List.pairwise_cons] at hp
    rw [List.length_cons] at hn
    rw [F71l1]
    by_cases hf:x.From = i
    · rw [decide_eq_true hf,cond_true]
      obtain ⟨hj,htk,hlen⟩:=hx x List.mem_cons_self hf
      have hother : ∀ y ∈ l,y.From = i → y.To ≠ x.To:=fun y hy hyf q=>hp.1 y hy ⟨by rw [hf,hyf],q.symm⟩
      rw [tT_get hT hj,ob_some,without_eq _ (by omega),ob_some]
      obtain ⟨d,b,e1,e2⟩:=tells_told (x:=x) hti (p:=p) (c:=c.1) (is:=c.2) hb
      rw [e1,ob_some]
      have fin : ∀ t':qk,Up (tT T x.To) i p (told x ti p) t' → ∀ o:Bool,o = false →
          ∃ T' W',(bif F56 t'.L (tT T x.To).L (fun y0 y1=>F57 y0 y1) then F71l1 i p c c.2 ⟨T,S,L0,W,o⟩ l
            else obind (F68 ⟨T.set x.To.toNat t',S,L0,W,o⟩ x.To p) (fun c120=>F71l1 i p c c.2 c120 l)) = some (c.2,⟨T',S,L0,W',false⟩) ∧ T'.length = s ∧ Srt ik W' ∧
            (∀ j,In s j → (∃ y ∈ x :: l,y.From = i ∧ y.To = j ∧ Up (tT T j) i p (told y ti p) (tT T' j)) ∨ ((∀ y ∈ x :: l,y.From = i → y.To ≠ j) ∧ tT T' j = tT T j)) ∧
            (∀ w,w ∈ W' ↔ w ∈ W ∨ ∃ j,In s j ∧ w = ⟨j,p⟩ ∧ tT T' j ≠ tT T j):=by
        intro t' hu o ho
        subst ho
        rw [eq56]
        by_cases he:t'.L = (tT T x.To).L
        · have het:t' = tT T x.To:=by cases t'; cases hq:tT T x.To; rw [hq] at he; simpa using he
          rw [decide_eq_true he,cond_true]
          obtain ⟨T',W',g1,g2,g3,g4,g5⟩:=do_l1 hti hb hi S L0 l T W hT (fun y hy=>hx y (List.mem_cons_of_mem _ hy)) hp.2 hW (by omega)
          refine ⟨T',W',g1,g2,g3,fun j hj2=>?_,g5⟩
          rcases g4 j hj2 with ⟨y,hy,h1,h2,h3⟩ | ⟨h1,h2⟩
          · exact .inl ⟨y,List.mem_cons_of_mem _ hy,h1,h2,h3⟩
          · by_cases hjx:x.To = j
            · subst hjx
              exact .inl ⟨x,List.mem_cons_self,hf,rfl,by rw [h2,← het]; rw [← het] at hu; exact hu⟩
            · refine .inr ⟨fun y hy hyf=>?_,h2⟩
              rcases List.mem_cons.1 hy with rfl | hy
              · exact hjx
              · exact h1 y hy hyf
        · rw [decide_eq_false he,cond_false]
          obtain ⟨w,q1,q2,q3,q4⟩:=todo_set ⟨T.set x.To.toNat t',S,L0,W,false⟩ hW (by dsimp only; omega) x.To p
          rw [q1,ob_some]
          dsimp only at q2 q3 q4
          have hset : ∀ j,In s j → tT (T.set x.To.toNat t') j = if j = x.To then t' else tT T j:=fun j hj2=>tT_set hT hj hj2 t'
          obtain ⟨T',W',g1,g2,g3,g4,g5⟩:=do_l1 hti hb hi S L0 l (T.set x.To.toNat t') w (by simpa using hT) (fun y hy hyf=>by
            obtain ⟨k1,k2,k3⟩:=hx y (List.mem_cons_of_mem _ hy) hyf
            rw [hset y.To k1,if_neg (hother y hy hyf)]
            exact ⟨k1,k2,k3⟩) hp.2 q2 (by omega)
          have hTx:tT T' x.To = t':=by
            rcases g4 x.To hj with ⟨y,hy,h1,h2,_⟩ | ⟨_,h2⟩
            · exact absurd h2 (hother y hy h1)
            · rw [h2,hset x.To hj,if_pos rfl]
          have hTj : ∀ j,In s j → j ≠ x.To → tT (T.set x.To.toNat t') j = tT T j:=fun j hj2 hne=>by rw [hset j hj2,if_neg hne]
          refine ⟨T',W',g1,g2,g3,fun j hj2=>?_,fun z=>?_⟩
          · by_cases hjx:j = x.To
            · subst hjx
              exact .inl ⟨x,List.mem_cons_self,hf,rfl,by rw [hTx]; exact hu⟩
            · rcases g4 j hj2 with ⟨y,hy,h1,h2,h3⟩ | ⟨h1,h2⟩
              · rw [hTj j hj2 hjx] at h3
                exact .inl ⟨y,List.mem_cons_of_mem _ hy,h1,h2,h3⟩
              · rw [hTj j hj2 hjx] at h2
                refine .inr ⟨fun y hy hyf=>?_,h2⟩
                rcases List.mem_cons.1 hy with rfl | hy
                · exact fun q=>hjx q.symm
                · exact h1 y hy hyf
          · rw [g5,q3]
            constructor
            · rintro ((h | h) | ⟨j,h1,h2,h3⟩)
              · exact .inr ⟨x.To,hj,h,by rw [hTx]; intro q; rw [q] at he; exact he rfl⟩
              · exact .inl h
              · by_cases hjx:j = x.To
                · subst hjx
                  exact .inr ⟨x.To,hj,h2,by rw [hTx]; intro q; rw [q] at he; exact he rfl⟩
                · rw [hTj j h1 hjx] at h3
                  exact .inr ⟨j,h1,h2,h3⟩
            · rintro (h | ⟨j,h1,h2,h3⟩)
              · exact .inl (.inr h)
              · by_cases hjx:j = x.To
                · subst hjx
                  exact .inl (.inl h2)
                · rw [← hTj j h1 hjx] at h3
                  exact .inr ⟨j,h1,h2,h3⟩
      have hfil : ∀ y,y ∈ List.filter (fun z=>!F109 z i p) (tT T x.To).L ↔ y ∈ (tT T x.To).L ∧ ¬ Fr i p y:=fun y=>by rw [List.mem_filter,isFr]
      have none_up:told x ti p = none → Up (tT T x.To) i p (told x ti p) ⟨List.filter (fun z=>!F109 z i p) (tT T x.To).L⟩:=fun hno =>
        ⟨htk.srt.sublist List.filter_sublist,fun y=>by rw [hfil,hno]; simp⟩
      cases hb2:b with
      | false =>
        rw [hb2] at e2
        dsimp only
        rw [cond_false]
        exact fin _ (none_up (by rw [e2]; simp)) false rfl
      | true =>
        rw [hb2] at e2
        dsimp only
        rw [cond_true]
        cases hc2:c.2 with
        | false =>
          rw [hc2] at e2 fin
          rw [cond_false]
          exact fin _ (none_up (by rw [e2]; simp)) false rfl
        | true =>
          rw [hc2] at e2 fin
          have ht:told x ti p = some d:=by rw [e2]; simp
          obtain ⟨m1,m2,m3,_⟩:=told_eq hti ht
          have hmay:=told_may hti ht (by rw [hf]; exact hi)
          have hfl:(List.filter (fun z=>!F109 z i p) (tT T x.To).L).length < 500:=Nat.lt_of_le_of_lt (List.length_filter_le _ _) hlen
          obtain ⟨t',k1,k2,k3,k4,_⟩:=put_set (t:=⟨List.filter (fun z=>!F109 z i p) (tT T x.To).L⟩) (htk.srt.sublist List.filter_sublist) hfl hmay
          rw [cond_true,k1,ob_some]
          dsimp only
          rw [cond_false]
          refine fin t' ⟨k2,fun y=>?_⟩ _ rfl
          rw [k3,hfil,ht]
          constructor
          · rintro (h | h)
            · exact .inr (by rw [h])
            · exact .inl h.1
          · rintro (h | h)
            · refine .inr ⟨h,fun q=>h.2 ?_⟩
              obtain ⟨q1,q2,q3,_⟩:=key_part q
              exact ⟨by rw [q2,m1],by rw [q3,m2,hf],by rw [q1,m3]⟩
            · injection h with h
              exact .inl h.symm
    · rw [decide_eq_false hf,cond_false]
      obtain ⟨T',W',g1,g2,g3,g4,g5⟩:=do_l1 hti hb hi S L0 l T W hT (fun y hy=>hx y (List.mem_cons_of_mem _ hy)) hp.2 hW (by omega)
      refine ⟨T',W',g1,g2,g3,fun j hj2=>?_,g5⟩
      rcases g4 j hj2 with ⟨y,hy,h1,h2,h3⟩ | ⟨h1,h2⟩
      · exact .inl ⟨y,List.mem_cons_of_mem _ hy,h1,h2,h3⟩
      · refine .inr ⟨fun y hy hyf=>?_,h2⟩
        rcases List.mem_cons.1 hy with rfl | hy
        · exact absurd hyf hf
        · exact h1 y hy hyf
def sT (S:List (List qj)) (j:Int):List qj:=S.getD j.toNat []
theorem sT_get {S:List (List qj)} {s:Nat} (h:S.length = s) {j:Int} (hj:In s j):getI S j = some (sT S j):=by
  unfold Abs.getI sT
  have:j.toNat < S.length:=by have:=hj.1; have:=hj.2; omega
  rw [if_pos hj.1,List.getElem?_eq_getElem this,List.getD_eq_getElem?_getD,List.getElem?_eq_getElem this]
  rfl
theorem sT_set {S:List (List qj)} {s:Nat} (h:S.length = s) {i j:Int} (hi:In s i) (hj:In s j) (t:List qj):sT (S.set i.toNat t) j = if j = i then t else sT S j:=by
  unfold sT
  have h1:i.toNat < S.length:=by have:=hi.1; have:=hi.2; omega
  rw [List.getD_eq_getElem?_getD,List.getElem?_set,List.getD_eq_getElem?_getD]
  by_cases q:j = i
  · subst q
    rw [if_pos rfl,if_pos h1,if_pos rfl]
    rfl
  · have : ¬ i.toNat = j.toNat:=by have:=hi.1; have:=hj.1; omega
    rw [if_neg this,if_neg q]
def prd:Nat → List zy → List (Int × zy)
  | 0,_=>[]
  | s + 1,PS=>prd s PS ++ PS.map fun p=>((s:Int),p)
theorem prd_len (PS:List zy) : ∀ s,(prd s PS).length = s * PS.length
  | 0=>by simp [prd]
  | s + 1=>by rw [prd,List.length_append,prd_len PS s,List.length_map,Nat.succ_mul]
theorem prd_mem {PS:List zy} {i:Int} {p:zy} (hp:p ∈ PS) : ∀ {s:Nat},In s i → (i,p) ∈ prd s PS
  | 0,h=>by have:=h.1; have:=h.2; omega
  | s + 1,h=>by
    rw [prd,List.mem_append]
    by_cases q:i = (s:Int)
    · exact .inr (List.mem_map.2 ⟨p,hp,by rw [q]⟩)
    · exact .inl (prd_mem hp ⟨h.1,by have:=h.2; omega⟩)
theorem inj_nodup {α β:Type} {f:α → β} {l:List α} (h:l.Nodup) (hf : ∀ a ∈ l,∀ b ∈ l,f a = f b → a = b):(l.map f).Nodup :=
  List.pairwise_map.2 (h.imp_of_mem fun {a b} ha hb q e=>q (hf a ha b hb e))
theorem len_split (f:qj → Bool) : ∀ l:List qj,l.length = (l.filter f).length + (l.filter fun c=>!f c).length
  | []=>rfl
  | x :: l=>by
    have:=len_split f l
    rw [List.filter_cons,List.filter_cons]
    cases f x <;> simp <;> omega
structure TW (PS:List zy) (k:Nat) (L:List zz) (i:Int) (t:qk):Prop where
  may : ∀ x ∈ t.L,MayP x
  ps : ∀ x ∈ t.L,x.P ∈ PS
  srt:Srt keyL t.L
  nat:(nat_ t.L).length ≤ k
  one : ∀ a ∈ t.L,∀ b ∈ t.L,a.Leaked = true → b.Leaked = true → a.From = b.From → a.P = b.P → a = b
  cov : ∀ y ∈ t.L,y.Leaked = true → ∃ x ∈ L,x.From = y.From ∧ x.To = i
structure WF (s:Nat) (PS:List zy) (k:Nat) (n:TNet):Prop where
  s1:1 ≤ s ∧ s ≤ 6
  T:n.T.length = s
  S:n.Sel.length = s
  tw : ∀ i,In s i → TW PS k n.L i (tT n.T i)
  lk : ∀ x ∈ n.L,In s x.From ∧ In s x.To ∧ x.From ≠ x.To
  ld:n.L.Pairwise fun a b=>¬ (a.From = b.From ∧ a.To = b.To)
  ll:n.L.length ≤ k
  ws:Srt ik n.Work
  wk : ∀ w ∈ n.Work,In s w.At ∧ w.P ∈ PS
  ss : ∀ i,In s i → Srt pk (sT n.Sel i)
  sp : ∀ i,In s i → ∀ c ∈ sT n.Sel i,c.P ∈ PS
  ov:n.Over = false
  k30:k ≤ 30
  p30:PS.length ≤ 30
theorem six {s:Nat} (h:s ≤ 6) {m:Nat} (hm:m ≤ 30):s * m ≤ 180:=Nat.le_trans (Nat.mul_le_mul h hm) (by decide)
theorem WF.len {s k:Nat} {PS:List zy} {n:TNet} (h:WF s PS k n) {i:Int} (hi:In s i):(tT n.T i).L.length ≤ 210:=by
  have w:=h.tw i hi
  have h1:=len_split (fun c=>c.Leaked) (tT n.T i).L
  have h2:=w.nat
  unfold nat_ at h2
  have h3:=h.k30
  have hin : ∀ a ∈ (tT n.T i).L.filter (fun c=>c.Leaked),a ∈ (tT n.T i).L ∧ a.Leaked = true:=fun a ha=>by simpa using List.mem_filter.1 ha
  have hnd:(((tT n.T i).L.filter fun c=>c.Leaked).map fun y=>(y.From,y.P)).Nodup :=
    inj_nodup ((srt_nodup w.srt).sublist List.filter_sublist) fun a ha b hb e=>by
      injection e with e1 e2
      exact w.one a (hin a ha).1 b (hin b hb).1 (hin a ha).2 (hin b hb).2 e1 e2
  have h4:=nodup_le (b:=prd s PS) hnd fun q hq=>by
    obtain ⟨y,hy,rfl⟩:=List.mem_map.1 hq
    obtain ⟨hy1,hy2⟩:=hin y hy
    obtain ⟨x,hx,e,_⟩:=w.cov y hy1 hy2
    exact prd_mem (w.ps y hy1) (e ▸ (h.lk x hx).1)
  rw [List.length_map,prd_len] at h4
  have:=six h.s1.2 h.p30
  omega
theorem WF.tk {s k:Nat} {PS:List zy} {n:TNet} (h:WF s PS k n) {i:Int} (hi:In s i):TK (tT n.T i) :=
  ⟨(h.tw i hi).may,(h.tw i hi).srt,Nat.le_trans (h.len hi) (by decide)⟩
theorem WF.wl {s k:Nat} {PS:List zy} {n:TNet} (h:WF s PS k n):n.Work.length ≤ s * PS.length:=by
  have h4:=nodup_le (a:=n.Work.map fun w=>(w.At,w.P)) (b:=prd s PS) (inj_nodup (srt_nodup h.ws) fun a _ b _ e=>by
      injection e with e1 e2
      cases a; cases b
      simp only at e1 e2
      rw [e1,e2]) fun q hq=>by
    obtain ⟨y,hy,rfl⟩:=List.mem_map.1 hq
    exact prd_mem (h.wk y hy).2 (h.wk y hy).1
  rw [List.length_map,prd_len] at h4
  exact h4
theorem WF.sl {s k:Nat} {PS:List zy} {n:TNet} (h:WF s PS k n) {i:Int} (hi:In s i):(sT n.Sel i).length ≤ 30:=by
  have h4:=nodup_le (a:=(sT n.Sel i).map fun c=>c.P) (b:=PS) (inj_nodup (srt_nodup (h.ss i hi)) fun a ha b hb e=>srt_one (h.ss i hi) ha hb (pk_two.2 e)) fun q hq=>by
    obtain ⟨y,hy,rfl⟩:=List.mem_map.1 hq
    exact h.sp i hi y hy
  rw [List.length_map] at h4
  exact Nat.le_trans h4 h.p30
theorem WF.own {s k:Nat} {PS:List zy} {n:TNet} (h:WF s PS k n):F41 n = some n:=by
  have h1:=h.s1
  have h2:=h.T
  have h3:=h.S
  have h4:=h.ll
  have h5:=h.wl
  have h6:=h.k30
  have:=six h.s1.2 h.p30
  exact own_eq (by omega) (by omega) (by omega) (by omega)
theorem link_one {L:List zz} (h:L.Pairwise fun a b=>¬ (a.From = b.From ∧ a.To = b.To)) {x y:zz} (hx:x ∈ L) (hy:y ∈ L) (e1:x.From = y.From) (e2:x.To = y.To):x = y:=by
  obtain ⟨i,hi,rfl⟩:=List.getElem_of_mem hx
  obtain ⟨j,hj,rfl⟩:=List.getElem_of_mem hy
  rcases Nat.lt_trichotomy i j with q | q | q
  · exact absurd ⟨e1,e2⟩ (List.pairwise_iff_getElem.1 h i j hi hj q)
  · subst q; rfl
  · exact absurd ⟨e1.symm,e2.symm⟩ (List.pairwise_iff_getElem.1 h j i hj hi q)
theorem up_nat {x:zz} {t ti:qk} {i:Int} {p:zy} {t':qk} (hs:Srt keyL t.L) (hti:TK ti) (h:Up t i p (told x ti p) t'):nt_ t' = nt_ t:=by
  unfold nt_
  congr 1
  refine srt_eq (k:=keyL) (h.srt.sublist List.filter_sublist) (hs.sublist List.filter_sublist) fun y=>?_
  unfold nat_
  rw [List.mem_filter,List.mem_filter,h.mem]
  constructor
  · rintro ⟨q | q,hy⟩
    · exact ⟨q.1,hy⟩
    · rw [(told_eq hti q).1] at hy
      cases hy
  · rintro ⟨q,hy⟩
    refine ⟨.inl ⟨q,fun f=>?_⟩,hy⟩
    rw [f.1] at hy
    cases hy
structure DoR (s:Nat) (n m:TNet) (i:Int) (p:zy):Prop where
  ini:In s i
  inw:(⟨i,p⟩ : zw) ∈ n.Work
  L:m.L = n.L
  T : ∀ j,In s j → (∃ x ∈ n.L,x.From = i ∧ x.To = j ∧ Up (tT n.T j) i p (told x (tT n.T i) p) (tT m.T j)) ∨ ((∀ x ∈ n.L,x.From = i → x.To ≠ j) ∧ tT m.T j = tT n.T j)
  W : ∀ w,w ∈ m.Work ↔ (w ∈ n.Work ∧ w ≠ ⟨i,p⟩) ∨ ∃ j,In s j ∧ w = ⟨j,p⟩ ∧ tT m.T j ≠ tT n.T j
  S : ∀ j,In s j → j ≠ i → sT m.Sel j = sT n.Sel j
  Si : ∀ y,y ∈ sT m.Sel i ↔ bst (tT n.T i) p = some y ∨ (y ∈ sT n.Sel i ∧ y.P ≠ p)
theorem do_spec {s k:Nat} {PS:List zy} {n:TNet} (h:WF s PS k n) {W:List zw} (hW:Srt ik W) {i:Int} {p:zy} (hw : ∀ w,w ∈ W ↔ w ∈ n.Work ∧ w ≠ ⟨i,p⟩) (hin:(⟨i,p⟩ : zw) ∈ n.Work) (hn:W.length ≤ n.Work.length) :
    ∃ m,F71 ⟨n.T,n.Sel,n.L,W,n.Over⟩ i p = some m ∧ WF s PS k m ∧ DoR s n m i p:=by
  have hi:=(h.wk _ hin).1
  have hp:=(h.wk _ hin).2
  dsimp only at hi hp
  have hti:=h.tk hi
  have h5:=h.wl
  have h6:=six h.s1.2 h.p30
  have h7:=h.ll
  have h8:=h.k30
  unfold F71
  rw [tT_get h.T hi,ob_some]
  obtain ⟨c,hb,hc1,hc2⟩ : ∃ c,F107 (tT n.T i) p = some c ∧ (c.2 = true → c.1.P = p) ∧ (∀ y,(c.2 = true ∧ y = c.1) ↔ bst (tT n.T i) p = some y):=by
    rcases bst_eq hti p with ⟨e,h1,h2⟩ | ⟨h1,h2⟩
    · refine ⟨_,h2,fun _=>((bst_iff hti p e).1 h1).1,fun y=>?_⟩
      rw [h1]
      simp [eq_comm]
    · refine ⟨_,h2,fun q=>(by cases q),fun y=>?_⟩
      rw [h1]
      simp
  rw [hb,ob_some,sT_get h.S hi,ob_some]
  obtain ⟨r,g1,g2,g3,g4⟩:=mark_set (h.ss i hi) (by have:=h.sl hi; omega) p c.1 c.2 hc1
  rw [g1,ob_some,h.ov]
  have hio : ∀ x ∈ n.L,x.From = i → x.To ≠ i:=fun x hx hf=>by rw [← hf]; exact (h.lk x hx).2.2.symm
  obtain ⟨T',W',k1,k2,k3,k4,k5⟩:=do_l1 hti hb (show 0 ≤ i ∧ i ≤ 31 from ⟨hi.1,by have:=hi.2; have:=h.s1.2; omega⟩) (n.Sel.set i.toNat r) n.L n.L n.T W h.T (fun x hx hf=>⟨(h.lk x hx).2.1,h.tk (h.lk x hx).2.1,by have:=h.len (h.lk x hx).2.1; omega⟩) h.ld hW (by omega)
  rw [k1,ob_some]
  refine ⟨_,rfl,?_,⟨hi,hin,rfl,k4,fun w=>by rw [k5,hw],fun j hj hji=>?_,fun y=>?_⟩⟩
  · refine ⟨h.s1,k2,by simpa using h.S,fun j hj=>?_,h.lk,h.ld,h.ll,k3,fun w hw'=>?_,fun j hj=>?_,fun j hj=>?_,rfl,h.k30,h.p30⟩
    · dsimp only
      have w:=h.tw j hj
      rcases k4 j hj with ⟨x,hx,hf,ht,hu⟩ | ⟨_,he⟩
      · refine ⟨fun y hy=>?_,fun y hy=>?_,hu.srt,?_,fun a ha b hb' hal hbl hab hP=>?_,fun y hy hyl=>?_⟩
        · rcases (hu.mem y).1 hy with q | q
          · exact w.may y q.1
          · exact told_may hti q (by rw [hf]; exact ⟨hi.1,by have:=hi.2; have:=h.s1.2; omega⟩)
        · rcases (hu.mem y).1 hy with q | q
          · exact w.ps y q.1
          · rw [(told_eq hti q).2.2.1]; exact hp
        · have:=up_nat w.srt hti hu
          unfold nt_ at this
          injection this with this
          rw [this]
          exact w.nat
        · rcases (hu.mem a).1 ha with q | q <;> rcases (hu.mem b).1 hb' with q' | q'
          · exact w.one a q.1 b q'.1 hal hbl hab hP
          · obtain ⟨_,t2,t3,_⟩:=told_eq hti q'
            exact absurd ⟨hal,by rw [hab,t2,hf],by rw [hP,t3]⟩ q.2
          · obtain ⟨_,t2,t3,_⟩:=told_eq hti q
            exact absurd ⟨hbl,by rw [← hab,t2,hf],by rw [← hP,t3]⟩ q'.2
          · rw [q] at q'
            injection q'
        · rcases (hu.mem y).1 hy with q | q
          · exact w.cov y q.1 hyl
          · exact ⟨x,hx,(told_eq hti q).2.1.symm,ht⟩
      · rw [he]; exact w
    · rcases (k5 w).1 hw' with q | ⟨j,q1,q2,_⟩
      · exact h.wk w ((hw w).1 q).1
      · rw [q2]; exact ⟨q1,hp⟩
    · dsimp only
      rw [sT_set h.S hi hj]
      split
      · exact g2
      · exact h.ss j hj
    · dsimp only
      rw [sT_set h.S hi hj]
      split
      · intro c' hc'
        rcases (g3 c').1 hc' with ⟨q1,q2⟩ | q
        · rw [q2,hc1 q1]; exact hp
        · exact h.sp i hi c' q.1
      · exact h.sp j hj
  · dsimp only
    rw [sT_set h.S hi hj,if_neg hji]
  · dsimp only
    rw [sT_set h.S hi hi,if_pos rfl,g3,hc2]
theorem pick_in (i:Int) {n:Nat} (hn:n ≠ 0):0 ≤ Int.tmod (max_ i 0) (n:Int) ∧ Int.tmod (max_ i 0) (n:Int) < n:=by
  have h0:0 ≤ max_ i 0:=by unfold max_; split <;> omega
  exact ⟨Int.tmod_nonneg _ h0,Int.tmod_lt_of_pos _ (by omega)⟩
theorem step_spec {s k:Nat} {PS:List zy} {n:TNet} (h:WF s PS k n) (q:Int):(n.Work = [] ∧ F28 n q = some (n,false)) ∨ ∃ m i p,F28 n q = some (m,true) ∧ WF s PS k m ∧ DoR s n m i p:=by
  unfold F28
  by_cases h0:n.Work.length = 0
  · left
    rw [decide_eq_true (show (n.Work.length:Int) = 0 by omega),cond_true]
    exact ⟨List.length_eq_zero_iff.1 h0,rfl⟩
  · right
    rw [decide_eq_false (show ¬ (n.Work.length:Int) = 0 by omega),cond_false,h.own,ob_some]
    have hp:=pick_in q h0
    revert hp
    generalize Int.tmod (max_ q 0) (n.Work.length:Int) = r
    intro hp
    obtain ⟨a,rfl⟩:=Int.eq_ofNat_of_zero_le hp.1
    have ha:a < n.Work.length:=by omega
    have hwl:=h.wl
    have:=six h.s1.2 h.p30
    have hw:IntKind.i64.wrap ((a:Int) + 1) = (a:Int) + 1:=wi64 (by omega) (by omega)
    have hsp:n.Work = n.Work.take a ++ n.Work[a] :: n.Work.drop (a + 1):=by rw [← List.drop_eq_getElem_cons ha,List.take_append_drop]
    have hta:(n.Work.take a).length = a:=by rw [List.length_take]; omega
    have hdel:del_ n.Work (a:Int) ((a:Int) + 1) = n.Work.take a ++ n.Work.drop (a + 1):=by
      have:=del_at (n.Work.take a) (n.Work.drop (a + 1)) n.Work[a]
      rw [← hsp,hta] at this
      exact this
    rw [decide_eq_true (show (n.Work.length:Int) ≠ 0 by omega),cond_true,getI_nat (List.getElem?_eq_getElem ha),ob_some,hw,decide_eq_true (show (0:Int) ≤ (a:Int) by omega),cond_true,decide_eq_true (show (a:Int) ≤ (a:Int) + 1 by omega),cond_true,decide_eq_true (show (a:Int) + 1 ≤ (n.Work.length:Int) by omega),cond_true,decide_eq_true (show n.Work.length < 1099511627776 by omega),cond_true,hdel]
    have hs:=h.ws
    rw [hsp] at hs
    have g:=srt_del hs
    rw [← hsp] at g
    obtain ⟨m,m1,m2,m3⟩:=do_spec h (W:=n.Work.take a ++ n.Work.drop (a + 1)) (i:=n.Work[a].At) (p:=n.Work[a].P) g.1 (fun w=>by
      rw [g.2]
      exact and_congr_right fun _=>⟨fun e e2=>e (by rw [e2]),fun e e2=>e (ik_inj e2)⟩) (List.getElem_mem ha) (by simp; omega)
    rw [m1,ob_some]
    exact ⟨m,_,_,rfl,m2,m3⟩
def Settled (n:TNet) (i:Int) (p:zy):Prop:=∀ x ∈ n.L,x.From = i → ∀ y,(y ∈ (tT n.T x.To).L ∧ Fr i p y) ↔ told x (tT n.T i) p = some y
section
variable {s k:Nat} {PS:List zy} {n m:TNet} {i:Int} {p:zy}
theorem DoR.Ti (h:WF s PS k n) (d:DoR s n m i p):tT m.T i = tT n.T i:=by
  rcases d.T i d.ini with ⟨x,hx,hf,ht,_⟩ | ⟨_,he⟩
  · exact absurd (hf.trans ht.symm) (h.lk x hx).2.2
  · exact he
theorem DoR.nt (h:WF s PS k n) (d:DoR s n m i p) {j:Int} (hj:In s j):nt_ (tT m.T j) = nt_ (tT n.T j):=by
  rcases d.T j hj with ⟨x,hx,hf,ht,hu⟩ | ⟨_,he⟩
  · exact up_nat (h.tw j hj).srt (h.tk d.ini) hu
  · rw [he]
theorem DoR.mem (h:WF s PS k n) (d:DoR s n m i p) {j:Int} (hj:In s j) {y:qj} (hy : ¬ Fr i p y):y ∈ (tT m.T j).L ↔ y ∈ (tT n.T j).L:=by
  rcases d.T j hj with ⟨x,hx,hf,ht,hu⟩ | ⟨_,he⟩
  · rw [hu.mem]
    constructor
    · rintro (q | q)
      · exact q.1
      · obtain ⟨t1,t2,t3,_⟩:=told_eq (h.tk d.ini) q
        exact absurd ⟨t1,by rw [t2,hf],t3⟩ hy
    · exact fun q=>.inl ⟨q,hy⟩
  · rw [he]
theorem DoR.bst (h:WF s PS k n) (h':WF s PS k m) (d:DoR s n m i p) {j:Int} (hj:In s j) {q:zy} (hq:q ≠ p ∨ tT m.T j = tT n.T j):bst (tT m.T j) q = bst (tT n.T j) q:=by
  rcases hq with hq | hq
  · refine bst_congr (h'.tk hj) (h.tk hj) q (fun c hc=>d.mem h hj fun f=>hq (by rw [← hc,f.2.2])) fun c _ _ e=>liv_dir (h'.tk hj).hop (h.tk hj).hop ?_ c e
    rw [← dir_nt,← dir_nt (tT n.T j),d.nt h hj]
  · rw [hq]
theorem told_bst {x:zz} {t t':qk} (h:bst t p = bst t' p):told x t p = told x t' p:=by
  unfold told op
  rw [h]
theorem DoR.keep (h:WF s PS k n) (d:DoR s n m i p) {l:Int} {q:zy} (hne:l ≠ i ∨ q ≠ p) (ht : ∀ x ∈ n.L,told x (tT m.T l) q = told x (tT n.T l) q) (hs:Settled n l q):Settled m l q:=by
  intro x hx hf y
  rw [d.L] at hx
  rw [ht x hx,← hs x hx hf y]
  refine and_congr_left fun f=>d.mem h (h.lk x hx).2.1 fun f2=>?_
  rcases hne with e | e
  · exact e (by rw [← f.2.1,f2.2.1])
  · exact e (by rw [← f.2.2,f2.2.2])
theorem DoR.settled (h:WF s PS k n) (d:DoR s n m i p):Settled m i p:=by
  intro x hx hf y
  rw [d.L] at hx
  rw [d.Ti h]
  have hj:=(h.lk x hx).2.1
  rcases d.T x.To hj with ⟨x',hx',hf',ht',hu⟩ | ⟨hno,_⟩
  · have:=link_one h.ld hx' hx (by rw [hf',hf]) ht'
    subst this
    rw [hu.mem]
    constructor
    · rintro ⟨q | q,f⟩
      · exact absurd f q.2
      · exact q
    · intro q
      obtain ⟨t1,t2,t3,_⟩:=told_eq (h.tk d.ini) q
      exact ⟨.inr q,t1,by rw [t2,hf],t3⟩
  · exact absurd rfl (hno x hx hf)
structure Dyn (s:Nat) (n:TNet):Prop where
  U : ∀ i p,In s i → (⟨i,p⟩ : zw) ∉ n.Work → Settled n i p
  M : ∀ i p,In s i → (⟨i,p⟩ : zw) ∉ n.Work → ∀ y,(y ∈ sT n.Sel i ∧ y.P = p) ↔ bst (tT n.T i) p = some y
theorem Dyn.step (h:WF s PS k n) (h':WF s PS k m) (d:DoR s n m i p) (g:Dyn s n):Dyn s m:=by
  have key : ∀ l q,In s l → (⟨l,q⟩ : zw) ∉ m.Work → (l ≠ i ∨ q ≠ p) → (⟨l,q⟩ : zw) ∉ n.Work ∧ Abs.bst (tT m.T l) q = Abs.bst (tT n.T l) q:=by
    intro l q hl hw hne
    refine ⟨fun hw2=>hw ((d.W _).2 (.inl ⟨hw2,fun e=>?_⟩)),d.bst h h' hl ?_⟩
    · injection e with e1 e2
      rcases hne with e | e
      · exact e e1
      · exact e e2
    · by_cases hq:q = p
      · subst hq
        exact .inr (Decidable.byContradiction fun e=>hw ((d.W _).2 (.inr ⟨l,hl,rfl,e⟩)))
      · exact .inl hq
  refine ⟨fun l q hl hw=>?_,fun l q hl hw y=>?_⟩
  · by_cases hne:l = i ∧ q = p
    · rw [hne.1,hne.2]
      exact d.settled h
    · have hne:l ≠ i ∨ q ≠ p:=Decidable.not_and_iff_not_or_not.1 hne
      obtain ⟨k1,k2⟩:=key l q hl hw hne
      exact d.keep h hne (fun x _=>told_bst k2) (g.U l q hl k1)
  · by_cases hne:l = i ∧ q = p
    · rw [hne.1,hne.2,d.Si,d.Ti h]
      constructor
      · rintro ⟨q1 | q1,q2⟩
        · exact q1
        · exact absurd q2 q1.2
      · exact fun q1=>⟨.inl q1,((bst_iff (h.tk d.ini) p y).1 q1).1⟩
    · have hne:l ≠ i ∨ q ≠ p:=Decidable.not_and_iff_not_or_not.1 hne
      obtain ⟨k1,k2⟩:=key l q hl hw hne
      rw [k2,← g.M l q hl k1]
      refine and_congr_left fun hyq=>?_
      by_cases hl2:l = i
      · rw [hl2,d.Si]
        have hq:q ≠ p:=hne.resolve_left fun e=>e hl2
        constructor
        · rintro (q1 | q1)
          · exact absurd (by rw [← hyq,((bst_iff (h.tk d.ini) p y).1 q1).1]) hq
          · exact q1.1
        · exact fun q1=>.inr ⟨q1,by rw [hyq]; exact hq⟩
      · rw [d.S l hl hl2]
end
open Classical
noncomputable def dn (t:qk) (p:zy):Int:=match nb t p with
  | some c=>c.Dist
  | none=>1000
theorem dn_some {t:qk} {p:zy} {c:qj} (h:nb t p = some c):dn t p = c.Dist:=by unfold dn; rw [h]
theorem dn_nt {t t':qk} (p:zy) (h:nt_ t = nt_ t'):dn t p = dn t' p:=by unfold dn nb; rw [h]
noncomputable def ds (s:Nat) (n:TNet) (p:zy):List Int:=(List.range s).map fun (j:Nat)=>dn (tT n.T (j:Int)) p
noncomputable def wgt (s:Nat) (n:TNet) (p:zy) (j:Int):Nat:=wt (ds s n p) (dn (tT n.T j) p)
def Xx (n:TNet) (D:Int → zy → Prop) (p:zy) (j:Int):Prop:=∃ y ∈ (tT n.T j).L,y.Leaked = true ∧ y.P = p ∧ ¬ D y.From p ∧ y.Dist < dn (tT n.T j) p
noncomputable def term (s:Nat) (n:TNet) (D:Int → zy → Prop) (p:zy) (j:Int):Nat:=if D j p then (if Xx n D p j ∨ ¬ Settled n j p then wgt s n p j else 0) else 5 + wgt s n p j
noncomputable def potp (s:Nat) (n:TNet) (D:Int → zy → Prop) (p:zy):Nat:=sm ((List.range s).map fun (j:Nat)=>term s n D p (j:Int))
noncomputable def pot (s:Nat) (PS:List zy) (n:TNet) (D:Int → zy → Prop):Nat:=n.Work.length + sm (PS.map (potp s n D))
structure Gh (s:Nat) (n:TNet) (D:Int → zy → Prop):Prop where
  cl : ∀ u p,D u p → ∀ j,In s j → ∀ y ∈ (tT n.T j).L,Fr u p y → ∃ c,nb (tT n.T u) p = some c ∧ y.Dist = c.Dist
  xs : ∀ j p,In s j → D j p → Xx n D p j → Settled n j p
def D1 (D:Int → zy → Prop) (i:Int) (p:zy):Int → zy → Prop:=fun u q=>D u q ∨ (u = i ∧ q = p)
theorem mem_range {s:Nat} {j:Int} (h:In s j):j.toNat ∈ List.range s ∧ ((j.toNat:Nat):Int) = j:=by
  have:=h.1; have:=h.2
  exact ⟨List.mem_range.2 (by omega),by omega⟩
theorem in_range {s a:Nat} (h:a ∈ List.range s):In s (a:Int):=by
  have:=List.mem_range.1 h
  exact ⟨by omega,by omega⟩
section
variable {s k:Nat} {PS:List zy} {n m:TNet} {i:Int} {p:zy} {D:Int → zy → Prop}
theorem DoR.ds (h:WF s PS k n) (d:DoR s n m i p) (q:zy):ds s m q = ds s n q:=by
  unfold Abs.ds
  exact List.map_congr_left fun a ha=>dn_nt q (d.nt h (in_range ha))
theorem DoR.wg (h:WF s PS k n) (d:DoR s n m i p) {j:Int} (hj:In s j) (q:zy):wgt s m q j = wgt s n q j:=by
  unfold wgt
  rw [d.ds h,dn_nt q (d.nt h hj)]
theorem x_none (ht:TK (tT n.T i)) (hx:Xx n D p i):op (tT n.T i) p = none:=by
  cases ho:op (tT n.T i) p with
  | none=>rfl
  | some c =>
    obtain ⟨h1,h2⟩:=(op_nb ht p c).1 ho
    obtain ⟨y,hy,h3,h4,_,h5⟩:=hx
    have:=h2 y hy h3 h4
    rw [dn_some h1] at h5
    omega
theorem DoR.xx (h:WF s PS k n) (d:DoR s n m i p) {j:Int} (hj:In s j) {q:zy} (hx:Xx m (D1 D i p) q j):Xx n D q j:=by
  obtain ⟨y,h1,h2,h3,h4,h5⟩:=hx
  rw [dn_nt q (d.nt h hj)] at h5
  refine ⟨y,(d.mem h hj fun f=>h4 (.inr ⟨f.2.1,by rw [← h3,f.2.2]⟩)).1 h1,h2,h3,fun e=>h4 (.inl e),h5⟩
theorem DoR.same_op (h:WF s PS k n) (h':WF s PS k m) (d:DoR s n m i p) (g:Gh s n D) {l:Int} (hl:In s l) (hx : ¬ Xx n D p l) (hd:dn (tT n.T l) p ≤ dn (tT n.T i) p ∨ (¬ D i p ∧ Xx n D p i)):op (tT m.T l) p = op (tT n.T l) p:=by
  have hnb:nb (tT m.T l) p = nb (tT n.T l) p:=by unfold nb; rw [d.nt h hl]
  have key : ∀ c,op (tT m.T l) p = some c ↔ op (tT n.T l) p = some c:=by
    intro c
    rw [op_nb (h'.tk hl),op_nb (h.tk hl),hnb]
    refine and_congr_right fun hc=>⟨fun a y hy hyl hyp=>?_,fun a y hy hyl hyp=>?_⟩
    · by_cases f:Fr i p y
      · by_cases hD:D i p
        · obtain ⟨c',e1,e2⟩:=g.cl i p hD l hl y hy f
          rcases hd with hd | hd
          · rw [dn_some hc,dn_some e1] at hd
            omega
          · exact absurd hD hd.1
        · refine Decidable.byContradiction fun q=>hx ⟨y,hy,hyl,hyp,by rw [f.2.1]; exact hD,by rw [dn_some hc]; omega⟩
      · exact a y ((d.mem h hl f).2 hy) hyl hyp
    · by_cases f:Fr i p y
      · rcases d.T l hl with ⟨x,hx',hf,ht,hu⟩ | ⟨_,he⟩
        · rcases (hu.mem y).1 hy with q | q
          · exact absurd f q.2
          · obtain ⟨_,_,_,c',e0,e1,e2,_⟩:=told_eq (h.tk d.ini) q
            rcases hd with hd | hd
            · rw [dn_some hc,dn_some e1] at hd
              omega
            · rw [x_none (h.tk d.ini) hd.2] at e0
              cases e0
        · rw [he] at hy
          exact a y hy hyl hyp
      · exact a y ((d.mem h hl f).1 hy) hyl hyp
  cases ho:op (tT n.T l) p with
  | some c=>exact (key c).2 ho
  | none =>
    cases ho':op (tT m.T l) p with
    | none=>rfl
    | some c=>rw [(key c).1 ho'] at ho; cases ho
theorem told_op_eq {x:zz} {t t':qk} (h:op t p = op t' p):told x t p = told x t' p:=by
  unfold told
  rw [h]
theorem Gh.step (h:WF s PS k n) (h':WF s PS k m) (d:DoR s n m i p) (g:Gh s n D):Gh s m (D1 D i p):=by
  refine ⟨fun u q hD j hj y hy f=>?_,fun j q hj hD hx=>?_⟩
  · by_cases e:u = i ∧ q = p
    · rw [e.1,e.2] at f ⊢
      rcases d.T j hj with ⟨x,hx,hf,ht,hu⟩ | ⟨hno,he⟩
      · rcases (hu.mem y).1 hy with q1 | q1
        · exact absurd f q1.2
        · obtain ⟨_,_,_,c,_,e1,e2,_⟩:=told_eq (h.tk d.ini) q1
          rw [d.Ti h]
          exact ⟨c,e1,e2⟩
      · obtain ⟨x,hx,e1,e2⟩:=(h'.tw j hj).cov y hy f.1
        rw [d.L] at hx
        exact absurd e2 (hno x hx (e1.trans f.2.1))
    · have hD2:D u q:=hD.resolve_right e
      have nf : ¬ Fr i p y:=fun f2=>e ⟨by rw [← f.2.1,f2.2.1],by rw [← f.2.2,f2.2.2]⟩
      have hy2:=(d.mem h hj nf).1 hy
      obtain ⟨c,e1,e2⟩:=g.cl u q hD2 j hj y hy2 f
      have hu:In s u:=by
        obtain ⟨x,hx,e3,_⟩:=(h.tw j hj).cov y hy2 f.1
        rw [← f.2.1,← e3]
        exact (h.lk x hx).1
      refine ⟨c,?_,e2⟩
      unfold nb at e1 ⊢
      rw [d.nt h hu]
      exact e1
  · by_cases e:j = i ∧ q = p
    · rw [e.1,e.2]
      exact d.settled h
    · have hD2:D j q:=hD.resolve_right e
      have hxn:=d.xx h hj hx
      have h1:op (tT n.T j) q = none:=x_none (h.tk hj) hxn
      have h2:op (tT m.T j) q = none:=x_none (h'.tk hj) hx
      exact d.keep h (Decidable.not_and_iff_not_or_not.1 e) (fun x _=>told_op_eq (by rw [h1,h2])) (g.xs j q hj hD2 hxn)
theorem DoR.idle (h:WF s PS k n) (h':WF s PS k m) (d:DoR s n m i p) (hs:Settled n i p) {j:Int} (hj:In s j):tT m.T j = tT n.T j:=by
  rcases d.T j hj with ⟨x,hx,hf,ht,hu⟩ | ⟨_,he⟩
  · have:(tT m.T j).L = (tT n.T j).L:=srt_eq (k:=keyL) hu.srt (h.tw j hj).srt fun y=>by
      rw [hu.mem,← hs x hx hf y,ht]
      constructor
      · rintro (q | q)
        · exact q.1
        · exact q.1
      · intro q
        by_cases f:Fr i p y
        · exact .inr ⟨q,f⟩
        · exact .inl ⟨q,f⟩
    cases hm:tT m.T j; cases hn:tT n.T j
    rw [hm,hn] at this
    simpa using this
  · exact he
theorem DoR.term_le (h:WF s PS k n) (d:DoR s n m i p) {l:Int} (hl:In s l) {q:zy} (hne:l ≠ i ∨ q ≠ p) (hs:D l q → ¬ Xx n D q l → Settled n l q → Settled m l q):term s m (D1 D i p) q l ≤ term s n D q l:=by
  have hD:D1 D i p l q ↔ D l q:=⟨fun e=>e.resolve_right fun e2=>hne.elim (fun a=>a e2.1) (fun a=>a e2.2),.inl⟩
  unfold term
  rw [d.wg h hl]
  by_cases c1:D l q
  · rw [if_pos (hD.2 c1),if_pos c1]
    by_cases c2:Xx n D q l ∨ ¬ Settled n l q
    · rw [if_pos c2]
      split <;> omega
    · rw [if_neg c2]
      have c3 : ¬ Xx n D q l:=fun e=>c2 (.inl e)
      have c4:Settled n l q:=Decidable.byContradiction fun e=>c2 (.inr e)
      rw [if_neg]
      · exact Nat.le_refl _
      · rintro (e | e)
        · exact c3 (d.xx h hl e)
        · exact e (hs c1 c3 c4)
  · rw [if_neg (fun e=>c1 (hD.1 e)),if_neg c1]
    exact Nat.le_refl _
theorem term_up (D:Int → zy → Prop) (l:Int) (q:zy):term s n D q l ≤ 5 + wgt s n q l:=by
  unfold term
  split
  · split <;> omega
  · omega
theorem DoR.term_i (h:WF s PS k n) (d:DoR s n m i p):term s m (D1 D i p) p i ≤ if Xx m (D1 D i p) p i then wgt s n p i else 0:=by
  unfold term
  rw [if_pos (.inr ⟨rfl,rfl⟩),d.wg h d.ini]
  have:=d.settled h
  by_cases c:Xx m (D1 D i p) p i
  · rw [if_pos (.inl c),if_pos c]
    exact Nat.le_refl _
  · rw [if_neg (by rintro (e | e); exact c e; exact e this),if_neg c]
    exact Nat.le_refl _
theorem DoR.potp_other (h:WF s PS k n) (h':WF s PS k m) (d:DoR s n m i p) {q:zy} (hq:q ≠ p):potp s m (D1 D i p) q ≤ potp s n D q :=
  sm_le fun a ha=>d.term_le h (in_range ha) (.inr hq) fun _ _=>d.keep h (.inr hq) fun x _=>told_bst (d.bst h h' (in_range ha) (.inl hq))
theorem DoR.potp_this (h:WF s PS k n) (h':WF s PS k m) (d:DoR s n m i p) (g:Gh s n D):potp s m (D1 D i p) p ≤ potp s n D p ∧ ((∃ j,In s j ∧ tT m.T j ≠ tT n.T j) → potp s m (D1 D i p) p + 5 ≤ potp s n D p):=by
  obtain ⟨hr1,hr2⟩:=mem_range d.ini
  have hsi:=d.settled h
  have ti:=d.term_i (D:=D) h
  have pay : ∀ (e:Nat → Nat) (C E:Nat),(∀ a ∈ List.range s,(a:Int) ≠ i → term s m (D1 D i p) p (a:Int) ≤ term s n D p (a:Int) + e a) → term s m (D1 D i p) p i + C ≤ term s n D p i → sm ((List.range s).map e) ≤ E → potp s m (D1 D i p) p + C ≤ potp s n D p + E:=by
    intro e C E h1 h2 h3
    refine sm_pay (k:=i.toNat) (e:=e) hr1 h3 (fun a ha=>?_) (by rw [hr2]; exact h2)
    by_cases c:(a:Int) = i
    · rw [c]; omega
    · exact h1 a ha c
  have ups:sm ((List.range s).map fun (a:Nat)=>if dn (tT n.T i) p < dn (tT n.T (a:Int)) p then wgt s n p (a:Int) else 0) + 5 ≤ wgt s n p i:=wt_if (fun (a:Nat)=>dn (tT n.T (a:Int)) p) (List.range s) (dn (tT n.T i) p)
  have h_up : ∀ a ∈ List.range s,(a:Int) ≠ i → term s m (D1 D i p) p (a:Int) ≤ term s n D p (a:Int) + if dn (tT n.T i) p < dn (tT n.T (a:Int)) p then wgt s n p (a:Int) else 0:=by
    intro a ha hne
    have hl:=in_range ha
    by_cases c:dn (tT n.T i) p < dn (tT n.T (a:Int)) p
    · rw [if_pos c]
      have hD:D1 D i p (a:Int) p ↔ D (a:Int) p:=⟨fun e=>e.resolve_right fun e2=>hne e2.1,.inl⟩
      unfold term
      rw [d.wg h hl]
      by_cases c1:D (a:Int) p
      · rw [if_pos (hD.2 c1)]
        split
        · omega
        · omega
      · rw [if_neg (fun e=>c1 (hD.1 e)),if_neg c1]
        omega
    · rw [if_neg c]
      exact d.term_le h hl (.inl hne) fun _ hx=>d.keep h (.inl hne) fun x _=>told_op_eq (d.same_op h h' g hl hx (.inl (by omega)))
  by_cases hD:D i p
  · by_cases hs:Settled n i p
    ·
      have idle:=fun j (hj:In s j)=>d.idle h h' hs hj
      refine ⟨sm_le fun a ha=>?_,fun ⟨j,hj,e⟩=>absurd (idle j hj) e⟩
      have hl:=in_range ha
      by_cases c:(a:Int) = i
      · rw [c]
        refine Nat.le_trans ti ?_
        unfold term
        rw [if_pos hD]
        by_cases hx:Xx m (D1 D i p) p i
        · rw [if_pos hx,if_pos (.inl (d.xx h d.ini hx))]
          exact Nat.le_refl _
        · rw [if_neg hx]
          exact Nat.zero_le _
      · exact d.term_le h hl (.inl c) fun _ _=>d.keep h (.inl c) fun x _=>by rw [idle _ hl]
    · have hx : ¬ Xx n D p i:=fun e=>hs (g.xs i p d.ini hD e)
      have hx' : ¬ Xx m (D1 D i p) p i:=fun e=>hx (d.xx h d.ini e)
      rw [if_neg hx'] at ti
      have t0:term s n D p i = wgt s n p i:=by
        unfold term
        rw [if_pos hD,if_pos (.inr hs)]
      have:=pay _ (wgt s n p i) (wgt s n p i - 5) h_up (by omega) (by omega)
      exact ⟨by omega,fun _=>by omega⟩
  · have t0:term s n D p i = 5 + wgt s n p i:=by
      unfold term
      rw [if_neg hD]
    by_cases hx:Xx n D p i
    · have ti2:term s m (D1 D i p) p i ≤ wgt s n p i:=Nat.le_trans ti (by split <;> omega)
      have:=pay (fun _=>0) 5 0 (fun a ha hne=>d.term_le h (in_range ha) (.inl hne) fun _ hx2=>d.keep h (.inl hne) fun x _=>told_op_eq (d.same_op h h' g (in_range ha) hx2 (.inr ⟨hD,hx⟩))) (by omega) (by rw [sm_const]; omega)
      exact ⟨by omega,fun _=>by omega⟩
    · have hx' : ¬ Xx m (D1 D i p) p i:=fun e=>hx (d.xx h d.ini e)
      rw [if_neg hx'] at ti
      have:=pay _ (5 + wgt s n p i) (wgt s n p i - 5) h_up (by omega) (by omega)
      exact ⟨by omega,fun _=>by omega⟩
theorem DoR.work (h:WF s PS k n) (h':WF s PS k m) (d:DoR s n m i p):m.Work.length + 1 ≤ n.Work.length + 5 ∧ ((∀ j,In s j → tT m.T j = tT n.T j) → m.Work.length + 1 ≤ n.Work.length):=by
  obtain ⟨A,B,hAB⟩:=List.append_of_mem d.inw
  have hlen:n.Work.length = A.length + B.length + 1:=by rw [hAB]; simp; omega
  have hmem : ∀ w,w ∈ n.Work → w ≠ ⟨i,p⟩ → w ∈ A ++ B:=by
    intro w hw hne
    rw [hAB] at hw
    simp only [List.mem_append,List.mem_cons] at hw ⊢
    rcases hw with q | q | q
    · exact .inl q
    · exact absurd q hne
    · exact .inr q
  obtain ⟨hr1,hr2⟩:=mem_range d.ini
  obtain ⟨A2,B2,h2⟩:=List.append_of_mem hr1
  have hl2:(A2 ++ B2).length ≤ 5:=by
    have:=congrArg List.length h2
    rw [List.length_range] at this
    have:=h.s1.2
    simp at *
    omega
  constructor
  · have:=nodup_le (a:=m.Work) (b:=(A ++ B) ++ (A2 ++ B2).map fun (a:Nat)=>(⟨(a:Int),p⟩ : zw)) (srt_nodup h'.ws) fun w hw=>by
      rcases (d.W w).1 hw with q | ⟨j,hj,rfl,hne⟩
      · exact List.mem_append_left _ (hmem w q.1 q.2)
      · refine List.mem_append_right _ (List.mem_map.2 ⟨j.toNat,?_,by rw [(mem_range hj).2]⟩)
        have hm:=(mem_range hj).1
        rw [h2] at hm
        simp only [List.mem_append,List.mem_cons] at hm ⊢
        rcases hm with q | q | q
        · exact .inl q
        · have:j = i:=by have:=hj.1; have:=d.ini.1; omega
          subst this
          exact absurd (d.Ti h) hne
        · exact .inr q
    rw [List.length_append,List.length_map] at this
    simp only [List.length_append] at this hl2
    omega
  · intro hno
    have:=nodup_le (a:=m.Work) (b:=A ++ B) (srt_nodup h'.ws) fun w hw=>by
      rcases (d.W w).1 hw with q | ⟨j,hj,rfl,hne⟩
      · exact hmem w q.1 q.2
      · exact absurd (hno j hj) hne
    simp only [List.length_append] at this
    omega
theorem DoR.falls (QS:List zy) (h:WF s PS k n) (h':WF s PS k m) (d:DoR s n m i p) (g:Gh s n D) (hp:p ∈ QS):pot s QS m (D1 D i p) + 1 ≤ pot s QS n D:=by
  unfold pot
  obtain ⟨w1,w2⟩:=d.work h h'
  obtain ⟨p1,p2⟩:=d.potp_this h h' g
  have hle : ∀ q ∈ QS,potp s m (D1 D i p) q ≤ potp s n D q + 0:=fun q _=>by
    by_cases e:q = p
    · rw [e]; exact p1
    · exact d.potp_other h h' e
  have z:sm (QS.map fun _=>0) ≤ 0:=by rw [sm_const]; omega
  by_cases c : ∃ j,In s j ∧ tT m.T j ≠ tT n.T j
  · have:=sm_pay (C:=5) hp z hle (p2 c)
    omega
  · have:=sm_pay (C:=0) hp z hle p1
    have:=w2 fun j hj=>Decidable.byContradiction fun e=>c ⟨j,hj,e⟩
    omega
theorem pot_zero (QS:List zy) (h:WF s PS k n):pot s QS n (fun _ _=>False) ≤ n.Work.length + 345 * QS.length:=by
  unfold pot
  have:sm (QS.map (potp s n fun _ _=>False)) ≤ sm (QS.map fun _=>345):=sm_le fun q _=>by
    unfold potp
    have h1:sm ((List.range s).map fun (j:Nat)=>term s n (fun _ _=>False) q (j:Int)) ≤ sm ((List.range s).map fun (j:Nat)=>(fun _=>5) j + (fun (j:Nat)=>wgt s n q (j:Int)) j):=sm_le fun a _=>term_up _ _ _
    have e:((List.range s).map fun (j:Nat)=>wgt s n q (j:Int)) = (Abs.ds s n q).map (wt (Abs.ds s n q)):=by
      have : ∀ f:Int → Nat,((List.range s).map fun (j:Nat)=>f (dn (tT n.T (j:Int)) q)) = (Abs.ds s n q).map f:=fun f=>by unfold Abs.ds; rw [List.map_map]; rfl
      exact this (wt (Abs.ds s n q))
    rw [sm_add,sm_const,List.length_range,e] at h1
    have:=wt_all (ds:=Abs.ds s n q) (n:=6) (by unfold Abs.ds; rw [List.length_map,List.length_range]; exact h.s1.2)
    have:=h.s1.2
    omega
  rw [sm_const] at this
  omega
structure Done (s:Nat) (PS:List zy) (k:Nat) (n m:TNet):Prop where
  wf:WF s PS k m
  dyn:Dyn s m
  work:m.Work = []
  L:m.L = n.L
  nt : ∀ j,In s j → nt_ (tT m.T j) = nt_ (tT n.T j)
theorem drain_l1 (QS:List zy) (picks:List Int) : ∀ (fuel many:Nat) (n:TNet) (D:Int → zy → Prop),WF s PS k n → Dyn s n → Gh s n D → (∀ w ∈ n.Work,w.P ∈ QS) → pot s QS n D < fuel → many + fuel ≤ 1000000 →
    ∃ (m:TNet) (c:Nat),F9l1 picks fuel (many:Int) n = some (.error (m,(c:Int))) ∧ c ≤ many + pot s QS n D ∧ Done s PS k n m
  | 0,many,n,D,_,_,_,_,hf,_=>by omega
  | fuel + 1,many,n,D,h,g,gh,hq,hf,hm=>by
    have step : ∀ q:Int,∃ (m:TNet) (c:Nat),obind (F28 n q) (fun c23=>(bif c23.2 then F9l1 picks fuel (IntKind.i64.wrap ((many:Int) + 1)) c23.1 else some (.error ((n,(many:Int)))))) = some (.error (m,(c:Int))) ∧ c ≤ many + pot s QS n D ∧ Done s PS k n m:=by
      intro q
      rcases step_spec h q with ⟨h1,h2⟩ | ⟨m,i,p,h1,h2,d⟩
      · rw [h2,ob_some]
        exact ⟨n,many,rfl,by omega,h,g,h1,rfl,fun _ _=>rfl⟩
      · rw [h1,ob_some]
        have hp:=hq _ d.inw
        have hfall:=d.falls QS h h2 gh hp
        have hw:IntKind.i64.wrap ((many:Int) + 1) = ((many + 1:Nat):Int):=by rw [wi64 (by omega) (by omega)]; omega
        obtain ⟨m',c,k1,k2,k3⟩:=drain_l1 QS picks fuel (many + 1) m (D1 D i p) h2 (g.step h h2 d) (gh.step h h2 d) (fun w hw'=>by
          rcases (d.W w).1 hw' with e | ⟨j,_,e,_⟩
          · exact hq w e.1
          · rw [e]; exact hp) (by omega) (by omega)
        rw [hw]
        exact ⟨m',c,k1,by omega,k3.wf,k3.dyn,k3.work,k3.L.trans d.L,fun j hj=>(k3.nt j hj).trans (d.nt h hj)⟩
    rw [F9l1]
    by_cases hc:(many:Int) < (picks.length:Int)
    · rw [decide_eq_true hc,cond_true,getI_nat (List.getElem?_eq_getElem (show many < picks.length by omega)),ob_some]
      exact step _
    · rw [decide_eq_false hc,cond_false]
      exact step 0
theorem drain_spec (QS:List zy) (h:WF s PS k n) (g:Dyn s n) (hq : ∀ w ∈ n.Work,w.P ∈ QS) (hl:QS.length ≤ 250) (picks:List Int) : ∃ (m:TNet) (c:Nat),F9 n picks = some (m,(c:Int)) ∧ c ≤ n.Work.length + 345 * QS.length ∧ Done s PS k n m:=by
  have h0:=pot_zero QS h
  have h1:=h.wl
  have h2:=six h.s1.2 h.p30
  obtain ⟨m,c,e,h3,h4⟩:=drain_l1 QS picks 100000 0 n (fun _ _=>False) h g ⟨fun _ _ q=>q.elim,fun _ _ _ q=>q.elim⟩ hq (by omega) (by omega)
  unfold F9
  rw [show F9l1 picks 100000 0 n = _ from e]
  exact ⟨m,c,rfl,by omega,h4⟩
end
def Sat {α:Type} (o:Option α) (Q:α → Prop):Prop:=∃ a,o = some a ∧ Q a
theorem Sat.bind {α β:Type} {o:Option α} {f:α → Option β} {Q:α → Prop} {R:β → Prop} (h:Sat o Q) (k : ∀ a,Q a → Sat (f a) R):Sat (obind o f) R:=by
  obtain ⟨a,rfl,h⟩:=h
  exact k a h
theorem Sat.mono {α:Type} {o:Option α} {Q R:α → Prop} (h:Sat o Q) (k : ∀ a,Q a → R a):Sat o R:=by
  obtain ⟨a,e,h⟩:=h
  exact ⟨a,e,k a h⟩
theorem Sat.ite {α:Type} {c:Bool} {a b:Option α} {Q:α → Prop} (h1:c = true → Sat a Q) (h2:c = false → Sat b Q):Sat (bif c then a else b) Q:=by
  cases c
  · exact h2 rfl
  · exact h1 rfl
structure More (W W':List zw) (i:Int) (P:zy → Prop) (k:Nat):Prop where
  srt:Srt ik W'
  mem : ∀ w,w ∈ W' ↔ w ∈ W ∨ (w.At = i ∧ P w.P)
  len:W'.length ≤ W.length + k
theorem more_todo {n:TNet} {i:Int} {p:zy} (hs:Srt ik n.Work) (hl:n.Work.length ≤ 90000) : ∃ w,F68 n i p = some ⟨n.T,n.Sel,n.L,w,n.Over⟩ ∧ More n.Work w i (fun q=>q = p) 1:=by
  obtain ⟨w,h1,h2,h3,h4⟩:=todo_set n hs hl i p
  refine ⟨w,h1,h2,fun z=>?_,h4⟩
  rw [h3]
  obtain ⟨a,b⟩:=z
  simp only [zw.mk.injEq]
  rw [or_comm]
theorem More.trans {W W' W'':List zw} {i:Int} {P Q:zy → Prop} {k l:Nat} (h:More W W' i P k) (g:More W' W'' i Q l):More W W'' i (fun q=>P q ∨ Q q) (k + l) :=
  ⟨g.srt,fun w=>by rw [g.mem,h.mem,or_assoc,← and_or_left],by have:=h.len; have:=g.len; omega⟩
theorem More.imp {W W':List zw} {i:Int} {P Q:zy → Prop} {k l:Nat} (h:More W W' i P k) (hkl:k ≤ l) (e : ∀ q,P q ↔ Q q):More W W' i Q l :=
  ⟨h.srt,fun w=>by rw [h.mem,e],Nat.le_trans h.len (by omega)⟩
theorem ex_cons {P:qj → Prop} {y:qj} {l:List qj} (h:P y) (q:zy):(q = y.P ∨ ∃ c ∈ l,P c ∧ c.P = q) ↔ ∃ c ∈ y :: l,P c ∧ c.P = q:=by
  constructor
  · rintro (rfl | ⟨x,hx,e⟩)
    · exact ⟨y,List.mem_cons_self,h,rfl⟩
    · exact ⟨x,List.mem_cons_of_mem _ hx,e⟩
  · rintro ⟨x,hx,e1,e2⟩
    rcases List.mem_cons.1 hx with rfl | hx
    · exact .inl e2.symm
    · exact .inr ⟨x,hx,e1,e2⟩
theorem ex_skip {P:qj → Prop} {y:qj} {l:List qj} (h : ¬ P y) (q:zy):(∃ c ∈ l,P c ∧ c.P = q) ↔ ∃ c ∈ y :: l,P c ∧ c.P = q:=by
  constructor
  · exact fun ⟨x,hx,e⟩=>⟨x,List.mem_cons_of_mem _ hx,e⟩
  · rintro ⟨x,hx,e1,e2⟩
    rcases List.mem_cons.1 hx with rfl | hx
    · exact absurd e1 h
    · exact ⟨x,hx,e1,e2⟩
theorem join_more {i:Int} : ∀ (l:List qj) (n:TNet),Srt ik n.Work → n.Work.length + l.length ≤ 90000 → ∃ w,F25l1 i n.L n.Over n.T n.Sel n.Work l = some (n.L,n.Over,n.T,n.Sel,w) ∧ More n.Work w i (fun q=>∃ c ∈ l,c.P = q) l.length
  | [],n,hs,_=>⟨n.Work,rfl,hs,fun w=>by simp,by simp⟩
  | x :: l,n,hs,hl=>by
    rw [List.length_cons] at hl
    obtain ⟨w,h1,h2⟩:=more_todo (n:=n) (i:=i) (p:=x.P) hs (by omega)
    have:=h2.len
    obtain ⟨w',g1,g2⟩:=join_more l ⟨n.T,n.Sel,n.L,w,n.Over⟩ h2.srt (by dsimp only; omega)
    rw [F25l1,h1,ob_some]
    exact ⟨w',g1,(h2.trans g2).imp (by rw [List.length_cons]; omega) fun q=>by simp [eq_comm]⟩
theorem part_more {x:zz} : ∀ (l:List qj) (n:TNet),Srt ik n.Work → n.Work.length + l.length ≤ 90000 → ∃ w,F32l1 x n.L n.Over n.T n.Sel n.Work l = some (n.L,n.Over,n.T,n.Sel,w) ∧ More n.Work w x.To (fun q=>∃ c ∈ l,F46 c x.From = true ∧ c.P = q) l.length
  | [],n,hs,_=>⟨n.Work,rfl,hs,fun w=>by simp,by simp⟩
  | y :: l,n,hs,hl=>by
    rw [List.length_cons] at hl
    rw [F32l1]
    cases hc:F46 y x.From with
    | true =>
      obtain ⟨w,h1,h2⟩:=more_todo (n:=n) (i:=x.To) (p:=y.P) hs (by omega)
      have:=h2.len
      obtain ⟨w',g1,g2⟩:=part_more (x:=x) l ⟨n.T,n.Sel,n.L,w,n.Over⟩ h2.srt (by dsimp only; omega)
      rw [cond_true,h1,ob_some]
      exact ⟨w',g1,(h2.trans g2).imp (by rw [List.length_cons]; omega) (ex_cons (P:=fun c=>F46 c x.From = true) hc)⟩
    | false =>
      obtain ⟨w',g1,g2⟩:=part_more (x:=x) l n hs (by omega)
      rw [cond_false]
      exact ⟨w',g1,g2.imp (by rw [List.length_cons]; omega) (ex_skip (P:=fun c=>F46 c x.From = true) (by rw [hc]; exact Bool.false_ne_true))⟩
theorem change_more {i:Int} {c:qj} : ∀ (l:List qj) (n:TNet),Srt ik n.Work → n.Work.length + l.length ≤ 90000 → ∃ w,F69l1 i c n l = some ⟨n.T,n.Sel,n.L,w,n.Over⟩ ∧ More n.Work w i (fun q=>∃ x ∈ l,(c.Proto = 0 ∧ x.Proto = 1 ∧ x.Leaked = false) ∧ x.P = q) l.length
  | [],n,hs,_=>⟨n.Work,rfl,hs,fun w=>by simp,by simp⟩
  | y :: l,n,hs,hl=>by
    rw [List.length_cons] at hl
    rw [F69l1]
    have skip : ¬ (c.Proto = 0 ∧ y.Proto = 1 ∧ y.Leaked = false) → ∃ w,F69l1 i c n l = some ⟨n.T,n.Sel,n.L,w,n.Over⟩ ∧ More n.Work w i (fun q=>∃ x ∈ y :: l,(c.Proto = 0 ∧ x.Proto = 1 ∧ x.Leaked = false) ∧ x.P = q) (y :: l).length:=fun hno=>by
      obtain ⟨w',g1,g2⟩:=change_more (i:=i) (c:=c) l n hs (by omega)
      exact ⟨w',g1,g2.imp (by rw [List.length_cons]; omega) (ex_skip (P:=fun x=>c.Proto = 0 ∧ x.Proto = 1 ∧ x.Leaked = false) hno)⟩
    by_cases h0:c.Proto = 0
    · rw [decide_eq_true h0,cond_true]
      by_cases h1:y.Proto = 1
      · rw [decide_eq_true h1,cond_true]
        cases hk:y.Leaked with
        | true =>
          rw [cond_true]
          exact skip fun q=>by rw [hk] at q; cases q.2.2
        | false =>
          obtain ⟨w,g1,g2⟩:=more_todo (n:=n) (i:=i) (p:=y.P) hs (by omega)
          have:=g2.len
          obtain ⟨w',k1,k2⟩:=change_more (i:=i) (c:=c) l ⟨n.T,n.Sel,n.L,w,n.Over⟩ g2.srt (by dsimp only; omega)
          rw [cond_false,g1,ob_some]
          exact ⟨w',k1,(g2.trans k2).imp (by rw [List.length_cons]; omega) (ex_cons (P:=fun x=>c.Proto = 0 ∧ x.Proto = 1 ∧ x.Leaked = false) ⟨h0,h1,hk⟩)⟩
      · rw [decide_eq_false h1,cond_false]
        exact skip fun q=>h1 q.2.1
    · rw [decide_eq_false h0,cond_false]
      exact skip fun q=>h0 q.1
section
variable {s k:Nat} {PS:List zy} {n:TNet}
theorem TW.mono {L:List zz} {i:Int} {t:qk} (h:TW PS k L i t) {PS':List zy} {k':Nat} {L':List zz} (hp : ∀ p ∈ PS,p ∈ PS') (hk:k ≤ k') (hL : ∀ x ∈ L,x ∈ L'):TW PS' k' L' i t :=
  ⟨h.may,fun x hx=>hp _ (h.ps x hx),h.srt,Nat.le_trans h.nat hk,h.one,fun y hy hl=>by
    obtain ⟨x,hx,e⟩:=h.cov y hy hl
    exact ⟨x,hL x hx,e⟩⟩
theorem WF.mono (h:WF s PS k n) {PS':List zy} {k':Nat} (hp : ∀ p ∈ PS,p ∈ PS') (hk:k ≤ k') (h1:k' ≤ 30) (h2:PS'.length ≤ 30):WF s PS' k' n :=
  ⟨h.s1,h.T,h.S,fun i hi=>(h.tw i hi).mono hp hk fun _ q=>q,h.lk,h.ld,Nat.le_trans h.ll hk,h.ws,fun w hw=>⟨(h.wk w hw).1,hp _ (h.wk w hw).2⟩,h.ss,fun i hi c hc=>hp _ (h.sp i hi c hc),h.ov,h1,h2⟩
theorem chg_net (h:WF s PS k n) (g:Dyn s n) {i:Int} (hi:In s i) {t2:qk} {c:qj} (h1:k + 1 ≤ 30) (h2:PS.length + 1 ≤ 30) (hc:c.Leaked = false)
    (hs:Srt keyL t2.L) (hm : ∀ y,y ∈ t2.L → (MayP y ∧ y.P = c.P) ∨ y ∈ (tT n.T i).L) (hk : ∀ y,keyL y ≠ keyL c → (y ∈ t2.L ↔ y ∈ (tT n.T i).L)) (hl:t2.L.length ≤ (tT n.T i).L.length + 1)
    (hf : ∀ f:qj → Bool,(∀ z,keyL z = keyL c → f z = false) → t2.L.filter f = (tT n.T i).L.filter f) :
    ∃ m,F69 n i t2 c = some m ∧ WF s (c.P :: PS) (k + 1) m ∧ Dyn s m:=by
  have w:=h.tw i hi
  have hlen:=h.len hi
  have hwl:=h.wl
  have h6:=six h.s1.2 h.p30
  unfold F69
  rw [h.own,ob_some,tT_get h.T hi,ob_some]
  obtain ⟨w1,e1,m1⟩:=more_todo (n:=⟨n.T.set i.toNat t2,n.Sel,n.L,n.Work,n.Over⟩) (i:=i) (p:=c.P) h.ws (by dsimp only; omega)
  rw [e1,ob_some]
  have:w1.length ≤ n.Work.length + 1:=m1.len
  obtain ⟨w2,e2,m2⟩:=change_more (i:=i) (c:=c) t2.L ⟨n.T.set i.toNat t2,n.Sel,n.L,w1,n.Over⟩ m1.srt (by dsimp only; omega)
  rw [e2,ob_some]
  have mm:=m1.trans m2
  dsimp only at mm
  have kp : ∀ z,keyL z = keyL c → z.Leaked = false ∧ z.P = c.P ∧ z.Proto = c.Proto:=fun z e=>by
    obtain ⟨e1,e2,_,e4⟩:=key_part e
    exact ⟨by rw [e2,hc],e1,e4⟩
  have hlk : ∀ y,y.Leaked = true → (y ∈ t2.L ↔ y ∈ (tT n.T i).L):=fun y hy=>hk y fun e=>by rw [(kp y e).1] at hy; cases hy
  have hset : ∀ j,In s j → tT (n.T.set i.toNat t2) j = if j = i then t2 else tT n.T j:=fun j hj=>tT_set h.T hi hj t2
  have tw2:TW (c.P :: PS) (k + 1) n.L i t2:=by
    refine ⟨fun x hx=>?_,fun x hx=>?_,hs,?_,fun a ha b hb hal hbl=>w.one a ((hlk a hal).1 ha) b ((hlk b hbl).1 hb) hal hbl,fun y hy hyl=>w.cov y ((hlk y hyl).1 hy) hyl⟩
    · rcases hm x hx with q | q
      · exact q.1
      · exact w.may x q
    · rcases hm x hx with q | q
      · rw [q.2]; exact List.mem_cons_self
      · exact List.mem_cons_of_mem _ (w.ps x q)
    · have a1:=len_split (fun c=>c.Leaked) t2.L
      have a2:=len_split (fun c=>c.Leaked) (tT n.T i).L
      rw [hf (fun c=>c.Leaked) fun z e=>(kp z e).1] at a1
      have a3:=w.nat
      unfold nat_ at a3 ⊢
      omega
  have hwf:WF s (c.P :: PS) (k + 1) ⟨n.T.set i.toNat t2,n.Sel,n.L,w2,n.Over⟩:=by
    refine ⟨h.s1,by simpa using h.T,h.S,fun j hj=>?_,h.lk,h.ld,Nat.le_succ_of_le h.ll,mm.srt,fun z hz=>?_,h.ss,fun j hj x hx=>List.mem_cons_of_mem _ (h.sp j hj x hx),h.ov,h1,h2⟩
    · dsimp only
      rw [hset j hj]
      split
      · rename_i e
        subst e
        exact tw2
      · exact (h.tw j hj).mono (fun p hp=>List.mem_cons_of_mem _ hp) (Nat.le_succ k) fun _ q=>q
    · rcases (mm.mem z).1 hz with q | ⟨q1,q2 | ⟨x,hx,_,q2⟩⟩
      · exact ⟨(h.wk z q).1,List.mem_cons_of_mem _ (h.wk z q).2⟩
      · rw [q1,q2]
        exact ⟨hi,List.mem_cons_self⟩
      · rw [q1,← q2]
        exact ⟨hi,tw2.ps x hx⟩
  refine ⟨_,rfl,hwf,?_⟩
  have key : ∀ l q,In s l → (⟨l,q⟩ : zw) ∉ w2 → (⟨l,q⟩ : zw) ∉ n.Work ∧ bst (tT (n.T.set i.toNat t2) l) q = bst (tT n.T l) q:=by
    intro l q hl' hw
    refine ⟨fun e=>hw ((mm.mem _).2 (.inl e)),?_⟩
    rw [hset l hl']
    split
    · rename_i e
      subst e
      have hq:q ≠ c.P:=fun e=>hw ((mm.mem _).2 (.inr ⟨rfl,.inl e⟩))
      have tk2:=hwf.tk hl'
      dsimp only at tk2
      rw [hset l hl',if_pos rfl] at tk2
      refine bst_congr tk2 (h.tk hl') q (fun y hy=>hk y fun e=>hq (by rw [← hy,(kp y e).2.1])) fun y hy hyq e=>?_
      by_cases h0:c.Proto = 0
      · have hst:y.Proto ≠ 1 ∨ y.Leaked = true:=by
          refine Decidable.byContradiction fun q2=>hw ((mm.mem _).2 (.inr ⟨rfl,.inr ⟨y,hy,⟨h0,Decidable.byContradiction fun q3=>q2 (.inl q3),?_⟩,hyq⟩⟩))
          rw [Bool.eq_false_iff]
          exact fun q3=>q2 (.inr q3)
        rw [liv_self hst,liv_self hst]
      · refine liv_dir tk2.hop (h.tk hl').hop ?_ y e
        unfold dir_
        refine hf _ fun z e=>?_
        rw [(kp z e).2.2,decide_eq_false h0]
        rfl
    · rfl
  have lk2 : ∀ j,In s j → ∀ y,y.Leaked = true → (y ∈ (tT (n.T.set i.toNat t2) j).L ↔ y ∈ (tT n.T j).L):=by
    intro j hj y hy
    rw [hset j hj]
    split
    · rename_i e
      subst e
      exact hlk y hy
    · exact Iff.rfl
  refine ⟨fun l q hl' hw x hx hxf y=>?_,fun l q hl' hw y=>?_⟩
  · obtain ⟨k1,k2⟩:=key l q hl' hw
    dsimp only
    rw [told_bst k2,← g.U l q hl' k1 x hx hxf y]
    exact and_congr_left fun f=>lk2 _ (h.lk x hx).2.1 y f.1
  · obtain ⟨k1,k2⟩:=key l q hl' hw
    dsimp only
    rw [k2]
    exact g.M l q hl' k1 y
def Good (s k:Nat) (PS:List zy) (m:TNet):Prop:=∃ PS',PS'.length ≤ PS.length + 1 ∧ WF s PS' (k + 1) m ∧ Dyn s m
theorem good_same (h:WF s PS k n) (g:Dyn s n) (h1:k + 1 ≤ 30):Good s k PS n:=⟨PS,Nat.le_succ _,h.mono (fun _ q=>q) (Nat.le_succ k) h1 h.p30,g⟩
theorem isTable_eq (h:WF s PS k n) (i:Int):F64 n i = some (decide (0 ≤ i ∧ i < (s:Int))):=by
  unfold F64
  rw [h.T]
  by_cases h0:0 ≤ i
  · simp [h0]
  · simp [h0]
theorem put_good (h:WF s PS k n) (g:Dyn s n) (h1:k + 1 ≤ 30) (h2:PS.length + 1 ≤ 30) (i:Int) (c:qj):Sat (F27 n i c) (fun r=>Good s k PS r.1):=by
  have same:=good_same h g h1
  unfold F27
  rw [isTable_eq h,ob_some]
  refine Sat.ite (fun hi=>?_) (fun _=>⟨_,rfl,same⟩)
  have hi:In s i:=of_decide_eq_true (p:=0 ≤ i ∧ i < (s:Int)) hi
  refine Sat.ite (fun _=>⟨_,rfl,same⟩) (fun hc=>?_)
  rw [tT_get h.T hi,ob_some]
  have hlen:=h.len hi
  by_cases hm:MayP c
  · obtain ⟨t',e1,e2,e3,e4,e5⟩:=put_set (t:=tT n.T i) (h.tw i hi).srt (by omega) hm
    rw [e1,ob_some]
    obtain ⟨m,k1,k2,k3⟩:=chg_net h g hi h1 h2 hc e2 (fun y hy=>by
      rcases (e3 y).1 hy with q | q
      · rw [q]; exact .inl ⟨hm,rfl⟩
      · exact .inr q.1) (fun y hy=>by
      rw [e3]
      constructor
      · rintro (q | q)
        · rw [q] at hy; exact absurd rfl hy
        · exact q.1
      · exact fun q=>.inr ⟨q,hy⟩) e4 e5
    dsimp only
    rw [k1,ob_some]
    exact ⟨_,rfl,_,Nat.le_refl _,k2,k3⟩
  · rw [put_bad hm,ob_some]
    exact ⟨_,rfl,same⟩
theorem drop_good (h:WF s PS k n) (g:Dyn s n) (h1:k + 1 ≤ 30) (h2:PS.length + 1 ≤ 30) (i:Int) (c:qj):Sat (F31 n i c) (fun r=>Good s k PS r.1):=by
  have same:=good_same h g h1
  unfold F31
  rw [isTable_eq h,ob_some]
  refine Sat.ite (fun hi=>?_) (fun _=>⟨_,rfl,same⟩)
  have hi:In s i:=of_decide_eq_true (p:=0 ≤ i ∧ i < (s:Int)) hi
  refine Sat.ite (fun _=>⟨_,rfl,same⟩) (fun hc=>?_)
  rw [tT_get h.T hi,ob_some]
  have hlen:=h.len hi
  rcases drop_set (t:=tT n.T i) (h.tw i hi).srt (by omega) c with e1 | ⟨t',e1,e2,e3,e4,e5⟩
  · rw [e1,ob_some]
    exact ⟨_,rfl,same⟩
  · rw [e1,ob_some]
    obtain ⟨m,k1,k2,k3⟩:=chg_net h g hi h1 h2 hc e2 (fun y hy=>.inr ((e3 y).1 hy).1) (fun y hy=>by
      rw [e3]
      exact ⟨fun q=>q.1,fun q=>⟨q,hy⟩⟩) (by omega) e5
    dsimp only
    rw [cond_true,k1,ob_some]
    exact ⟨_,rfl,_,Nat.le_refl _,k2,k3⟩
theorem has_link (f:zz → Bool) : ∀ (l:List zz) (i:Nat),(F103l1 f i l = .ok () ∧ ∀ x ∈ l,f x = false) ∨ ∃ r:Nat,F103l1 f i l = .error (r:Int)
  | [],i=>.inl ⟨rfl,fun x hx=>by cases hx⟩
  | x :: l,i=>by
    rw [F103l1]
    cases hx:f x with
    | true=>exact .inr ⟨i,rfl⟩
    | false =>
      rcases has_link f l (i + 1) with ⟨h1,h2⟩ | h
      · refine .inl ⟨h1,fun y hy=>?_⟩
        rcases List.mem_cons.1 hy with rfl | hy
        · exact hx
        · exact h2 y hy
      · exact .inr h
theorem join_good (h:WF s PS k n) (g:Dyn s n) (h1:k + 1 ≤ 30) (a b:Int) (mp:List zx):Sat (F25 n a b mp) (fun r=>Good s k PS r.1):=by
  have same:=good_same h g h1
  unfold F25
  rw [isTable_eq h,isTable_eq h,ob_some,ob_some]
  refine Sat.ite (fun ha=>?_) (fun _=>⟨_,rfl,same⟩)
  refine Sat.ite (fun hb=>?_) (fun _=>⟨_,rfl,same⟩)
  have ha:In s a:=of_decide_eq_true (p:=0 ≤ a ∧ a < (s:Int)) ha
  have hb:In s b:=of_decide_eq_true (p:=0 ≤ b ∧ b < (s:Int)) hb
  refine Sat.ite (fun _=>⟨_,rfl,same⟩) (fun hab=>?_)
  have hab:=of_decide_eq_false hab
  refine Sat.ite (fun _=>?_) (fun _=>⟨_,rfl,same⟩)
  refine Sat.ite (fun _=>⟨_,rfl,same⟩) (fun hno=>?_)
  have hno : ∀ x ∈ n.L,¬ (x.From = a ∧ x.To = b):=by
    unfold F66 F103 at hno
    rcases has_link (fun y0=>F67 y0 a b) n.L 0 with ⟨_,e⟩ | ⟨r,e⟩
    · intro x hx q
      have:=e x hx
      unfold F67 at this
      simp [q.1,q.2] at this
    · rw [e] at hno
      simp at hno
  have hlen:=h.len ha
  have hwl:=h.wl
  have h6:=six h.s1.2 h.p30
  have hll:=h.ll
  have hov:=h.ov
  rw [h.own,ob_some,decide_eq_true (show n.L.length < 1099511627776 by omega),cond_true,tT_get h.T ha,ob_some]
  obtain ⟨w,e1,e2⟩:=join_more (i:=a) (tT n.T a).L ⟨n.T,n.Sel,n.L ++ [⟨a,b,mp⟩],n.Work,n.Over⟩ h.ws (by dsimp only; omega)
  dsimp only at e1 e2
  rw [e1,ob_some]
  refine ⟨_,rfl,PS,Nat.le_succ _,?_,?_⟩
  · refine ⟨h.s1,h.T,h.S,fun i hi=>(h.tw i hi).mono (fun _ q=>q) (Nat.le_succ k) fun x hx=>List.mem_append_left _ hx,fun x hx=>?_,?_,by simp; omega,e2.srt,fun z hz=>?_,h.ss,h.sp,h.ov,h1,h.p30⟩
    · rcases List.mem_append.1 hx with q | q
      · exact h.lk x q
      · rw [List.mem_singleton.1 q]
        exact ⟨ha,hb,hab⟩
    · refine List.pairwise_append.2 ⟨h.ld,List.pairwise_singleton _ _,fun x hx y hy=>?_⟩
      rw [List.mem_singleton.1 hy]
      exact hno x hx
    · rcases (e2.mem z).1 hz with q | ⟨q1,c,q2,q3⟩
      · exact h.wk z q
      · rw [q1,← q3]
        exact ⟨ha,(h.tw a ha).ps c q2⟩
  · refine ⟨fun l q hl hw x hx hxf y=>?_,fun l q hl hw y=>g.M l q hl (fun e=>hw ((e2.mem _).2 (.inl e))) y⟩
    have hw1:(⟨l,q⟩ : zw) ∉ n.Work:=fun e=>hw ((e2.mem _).2 (.inl e))
    dsimp only at hx ⊢
    rcases List.mem_append.1 hx with e | e
    · exact g.U l q hl hw1 x e hxf y
    · rw [List.mem_singleton.1 e] at hxf ⊢
      dsimp only at hxf ⊢
      subst hxf
      constructor
      · rintro ⟨q1,f⟩
        obtain ⟨x',k1,k2,k3⟩:=(h.tw b hb).cov y q1 f.1
        exact absurd ⟨k2.trans f.2.1,k3⟩ (hno x' k1)
      · intro ht
        obtain ⟨_,_,_,c,k1,_⟩:=told_eq (h.tk hl) ht
        obtain ⟨k2,⟨d,k3,k4⟩,_⟩:=(bst_iff (h.tk hl) q c).1 (op_some.1 k1).1
        refine absurd ((e2.mem _).2 (.inr ⟨rfl,d,k3,?_⟩)) hw
        rw [← (liv_P k4 ((h.tk hl).hop d k3)).1,k2]
theorem part_good (h:WF s PS k n) (g:Dyn s n) (h1:k + 1 ≤ 30) (i:Int):Sat (F32 n i) (fun r=>Good s k PS r.1):=by
  have same:=good_same h g h1
  have hll:=h.ll
  have hwl:=h.wl
  have h6:=six h.s1.2 h.p30
  unfold F32
  refine Sat.ite (fun _=>⟨_,rfl,same⟩) (fun i0=>?_)
  refine Sat.ite (fun _=>⟨_,rfl,same⟩) (fun i1=>?_)
  obtain ⟨a,rfl⟩:=Int.eq_ofNat_of_zero_le (show 0 ≤ i by have:=of_decide_eq_false i0; omega)
  have ha:a < n.L.length:=by have:=of_decide_eq_false i1; omega
  rw [getI_nat (List.getElem?_eq_getElem ha),ob_some,h.own,ob_some]
  have hw:IntKind.i64.wrap ((a:Int) + 1) = (a:Int) + 1:=wi64 (by omega) (by omega)
  obtain ⟨A,B,hsp,hta⟩ : ∃ A B,n.L = A ++ n.L[a] :: B ∧ A.length = a:=⟨n.L.take a,n.L.drop (a + 1),by rw [← List.drop_eq_getElem_cons ha,List.take_append_drop],by rw [List.length_take]; omega⟩
  have hdel:del_ n.L (a:Int) ((a:Int) + 1) = A ++ B:=by
    have:=del_at A B n.L[a]
    rw [← hsp,hta] at this
    exact this
  have hx:n.L[a] ∈ n.L:=List.getElem_mem ha
  have hld:=h.ld
  rw [hw,decide_eq_true (show (0:Int) ≤ (a:Int) by omega),cond_true,decide_eq_true (show (a:Int) ≤ (a:Int) + 1 by omega),cond_true,decide_eq_true (show (a:Int) + 1 ≤ (n.L.length:Int) by omega),cond_true,decide_eq_true (show n.L.length < 1099511627776 by omega),cond_true,hdel]
  clear hdel hw
  revert hsp hx
  generalize n.L[a] = x
  intro hsp hx
  obtain ⟨hfx,htx,hne⟩:=h.lk x hx
  have hlen:=h.len htx
  rw [tT_get h.T htx,ob_some]
  obtain ⟨w,e1,e2⟩:=part_more (x:=x) (tT n.T x.To).L ⟨n.T,n.Sel,A ++ B,n.Work,n.Over⟩ h.ws (by dsimp only; omega)
  dsimp only at e1 e2
  rw [e1,ob_some]
  dsimp only
  rw [tT_get h.T htx,ob_some,without_eq _ (by omega),ob_some]
  have hsub : ∀ y ∈ A ++ B,y ∈ n.L:=fun y hy=>by
    rw [hsp]
    rcases List.mem_append.1 hy with q | q
    · exact List.mem_append_left _ q
    · exact List.mem_append_right _ (List.mem_cons_of_mem _ q)
  have hrest : ∀ y ∈ n.L,y ≠ x → y ∈ A ++ B:=fun y hy e=>by
    rw [hsp] at hy
    simp only [List.mem_append,List.mem_cons] at hy ⊢
    rcases hy with q | q | q
    · exact .inl q
    · exact absurd q e
    · exact .inr q
  have hnot : ∀ y ∈ A ++ B,¬ (y.From = x.From ∧ y.To = x.To):=fun y hy e=>by
    rw [hsp,List.pairwise_append,List.pairwise_cons] at hld
    rcases List.mem_append.1 hy with q | q
    · exact hld.2.2 y q x List.mem_cons_self e
    · exact hld.2.1.1 y q ⟨e.1.symm,e.2.symm⟩
  have hfil : ∀ y,y ∈ (tT n.T x.To).L.filter (fun z=>!F76 z x) ↔ y ∈ (tT n.T x.To).L ∧ ¬ (y.Leaked = true ∧ y.From = x.From):=fun y=>by
    rw [List.mem_filter]
    unfold F76 F46
    cases y.Leaked <;> simp
  have hnat:nat_ ((tT n.T x.To).L.filter (fun z=>!F76 z x)) = nat_ (tT n.T x.To).L:=by
    unfold nat_
    rw [List.filter_filter]
    refine List.filter_congr fun c _=>?_
    unfold F76 F46
    cases c.Leaked <;> simp
  have hset : ∀ j,In s j → tT (n.T.set x.To.toNat ⟨(tT n.T x.To).L.filter (fun z=>!F76 z x)⟩) j = if j = x.To then ⟨(tT n.T x.To).L.filter (fun z=>!F76 z x)⟩ else tT n.T j:=fun j hj=>tT_set h.T htx hj _
  have wt:=h.tw x.To htx
  have hwf:WF s PS (k + 1) ⟨n.T.set x.To.toNat ⟨(tT n.T x.To).L.filter (fun z=>!F76 z x)⟩,n.Sel,A ++ B,w,n.Over⟩:=by
    refine ⟨h.s1,by simpa using h.T,h.S,fun j hj=>?_,fun y hy=>h.lk y (hsub y hy),?_,by have:=congrArg List.length hsp; simp at this ⊢; omega,e2.srt,fun z hz=>?_,h.ss,h.sp,h.ov,h1,h.p30⟩
    · dsimp only
      rw [hset j hj]
      split
      · rename_i e
        subst e
        refine ⟨fun y hy=>wt.may y ((hfil y).1 hy).1,fun y hy=>wt.ps y ((hfil y).1 hy).1,wt.srt.sublist List.filter_sublist,by rw [hnat]; exact Nat.le_succ_of_le wt.nat,fun y hy z hz=>wt.one y ((hfil y).1 hy).1 z ((hfil z).1 hz).1,fun y hy hyl=>?_⟩
        obtain ⟨q1,q2⟩:=(hfil y).1 hy
        obtain ⟨z,k1,k2,k3⟩:=wt.cov y q1 hyl
        exact ⟨z,hrest z k1 fun e=>q2 ⟨hyl,by rw [← k2,e]⟩,k2,k3⟩
      · rename_i e
        have wj:=h.tw j hj
        refine ⟨wj.may,wj.ps,wj.srt,Nat.le_succ_of_le wj.nat,wj.one,fun y hy hyl=>?_⟩
        obtain ⟨z,k1,k2,k3⟩:=wj.cov y hy hyl
        exact ⟨z,hrest z k1 fun e2=>e (by rw [← k3,e2]),k2,k3⟩
    · have:(A ++ B).Sublist n.L:=by rw [hsp]; exact List.Sublist.append (List.Sublist.refl _) (List.sublist_cons_self _ _)
      exact hld.sublist this
    · rcases (e2.mem z).1 hz with q | ⟨q1,c,q2,_,q3⟩
      · exact h.wk z q
      · rw [q1,← q3]
        exact ⟨htx,wt.ps c q2⟩
  refine ⟨_,rfl,PS,Nat.le_succ _,hwf,?_⟩
  have key : ∀ l q,In s l → (⟨l,q⟩ : zw) ∉ w → (⟨l,q⟩ : zw) ∉ n.Work ∧ bst (tT (n.T.set x.To.toNat ⟨(tT n.T x.To).L.filter (fun z=>!F76 z x)⟩) l) q = bst (tT n.T l) q:=by
    intro l q hl hw
    refine ⟨fun e=>hw ((e2.mem _).2 (.inl e)),?_⟩
    have tkl:=hwf.tk hl
    dsimp only at tkl
    rw [hset l hl] at tkl ⊢
    by_cases e:l = x.To
    · subst e
      rw [if_pos rfl] at tkl ⊢
      refine bst_congr tkl (h.tk hl) q (fun y hy=>?_) fun y _ _ e=>liv_dir tkl.hop (h.tk hl).hop ?_ y e
      · dsimp only
        rw [hfil]
        refine ⟨fun a=>a.1,fun a=>⟨a,fun b=>hw ((e2.mem _).2 (.inr ⟨rfl,y,a,?_,hy⟩))⟩⟩
        unfold F46
        rw [b.1,decide_eq_true b.2]
        rfl
      · rw [← dir_nt,← dir_nt (tT n.T x.To)]
        unfold nt_
        rw [hnat]
    · rw [if_neg e]
  refine ⟨fun l q hl hw y hy hyf z=>?_,fun l q hl hw z=>?_⟩
  · obtain ⟨k1,k2⟩:=key l q hl hw
    dsimp only at hy ⊢
    rw [told_bst k2,← g.U l q hl k1 y (hsub y hy) hyf z,hset y.To (h.lk y (hsub y hy)).2.1]
    refine and_congr_left fun f=>?_
    by_cases e:y.To = x.To
    · rw [if_pos e]
      dsimp only
      rw [hfil,e]
      exact ⟨fun a=>a.1,fun a=>⟨a,fun b=>hnot y hy ⟨by rw [hyf,← f.2.1,b.2],e⟩⟩⟩
    · rw [if_neg e]
  · obtain ⟨k1,k2⟩:=key l q hl hw
    dsimp only
    rw [k2]
    exact g.M l q hl k1 z
theorem act_good (h:WF s PS k n) (g:Dyn s n) (h1:k + 1 ≤ 30) (h2:PS.length + 1 ≤ 30) (a:TAct):Sat (F14 n a) (fun r=>Good s k PS r.1):=by
  unfold F14
  refine Sat.ite (fun _=>?_) (fun _=>Sat.ite (fun _=>?_) (fun _=>Sat.ite (fun _=>?_) (fun _=>Sat.ite (fun _=>?_) (fun _=>?_))))
  · exact Sat.bind (put_good h g h1 h2 _ _) fun r hr=>⟨_,rfl,hr⟩
  · exact Sat.bind (drop_good h g h1 h2 _ _) fun r hr=>⟨_,rfl,hr⟩
  · exact Sat.bind (join_good h g h1 _ _ _) fun r hr=>⟨_,rfl,hr⟩
  · exact Sat.bind (part_good h g h1 _) fun r hr=>⟨_,rfl,hr⟩
  · rcases step_spec h a.To with ⟨_,e⟩ | ⟨m,i,p,e,k1,k2⟩
    · rw [e,ob_some]
      exact ⟨_,rfl,good_same h g h1⟩
    · rw [e,ob_some]
      exact ⟨_,rfl,good_same k1 (g.step h k1 k2) h1⟩
end
theorem small_l1 : ∀ l:List zx,Sat (F13l1 l) (fun _=>True)
  | []=>⟨_,rfl,trivial⟩
  | x :: l=>by
    rw [F13l1]
    exact Sat.ite (fun _=>⟨_,rfl,trivial⟩) (fun _=>Sat.ite (fun _=>⟨_,rfl,trivial⟩) (fun _=>small_l1 l))
theorem small_sat (a:TAct):Sat (F13 a) (fun _=>True):=by
  unfold F13
  refine Sat.ite (fun _=>⟨_,rfl,trivial⟩) (fun _=>Sat.ite (fun _=>⟨_,rfl,trivial⟩) (fun _=>?_))
  obtain ⟨r,e,_⟩:=small_l1 a.Map
  rw [e]
  cases r
  · exact ⟨_,rfl,trivial⟩
  · exact ⟨_,rfl,trivial⟩
def Net (n:TNet):Prop:=∃ s PS k,WF s PS k n ∧ Dyn s n
theorem built_l1 {s:Nat} : ∀ (l:List TAct) (n:TNet) (i:Nat) (PS:List zy),WF s PS i n → Dyn s n → PS.length ≤ i → i ≤ 30 → Sat (F7l1 n i l) Net
  | [],n,i,PS,h,g,_,_=>⟨n,rfl,s,PS,i,h,g⟩
  | x :: l,n,i,PS,h,g,hp,hi=>by
    rw [F7l1]
    refine Sat.ite (fun hq=>?_) (fun _=>⟨n,rfl,s,PS,i,h,g⟩)
    have hq:i < 30:=by have:=of_decide_eq_true hq; omega
    refine Sat.bind (small_sat x) fun b _=>?_
    refine Sat.ite (fun _=>?_) (fun _=>built_l1 l n (i + 1) PS (h.mono (fun _ q=>q) (Nat.le_succ i) (by omega) h.p30) g (by omega) (by omega))
    refine Sat.bind (act_good h g (by omega) (by omega) x) fun r hr=>?_
    obtain ⟨PS',k1,k2,k3⟩:=hr
    exact built_l1 l r.1 (i + 1) PS' k2 k3 (by omega) (by omega)
theorem rep_T (s:Nat) (j:Int):tT (List.replicate s ⟨[]⟩) j = ⟨[]⟩:=by
  unfold tT
  rw [List.getD_eq_getElem?_getD,List.getElem?_replicate]
  split <;> rfl
theorem rep_S (s:Nat) (j:Int):sT (List.replicate s []) j = []:=by
  unfold sT
  rw [List.getD_eq_getElem?_getD,List.getElem?_replicate]
  split <;> rfl
theorem built_net (size:Int) (script:List TAct):Sat (F7 size script) (fun r=>r.2 = true → Net r.1):=by
  unfold F7 F11
  by_cases h1:size < 1
  · rw [decide_eq_true h1,cond_true,ob_some]
    exact ⟨_,rfl,fun q=>by cases q⟩
  rw [decide_eq_false h1,cond_false]
  by_cases h6:6 < size
  · rw [decide_eq_true h6,cond_true,ob_some]
    exact ⟨_,rfl,fun q=>by cases q⟩
  rw [decide_eq_false h6,cond_false,decide_eq_true (show (0:Int) ≤ size by omega),cond_true,decide_eq_true (show size < 1099511627776 by omega),cond_true,ob_some]
  have d:decide ((0:Int) = 0) = true:=rfl
  dsimp only
  rw [d,cond_true]
  have h0:WF size.toNat [] 0 ⟨List.replicate size.toNat ⟨[]⟩,List.replicate size.toNat [],[],[],false⟩:=by
    refine ⟨by omega,List.length_replicate ..,List.length_replicate ..,fun i _=>?_,fun x hx=>(by cases hx),.nil,Nat.le_refl _,.nil,fun w hw=>(by cases hw),fun i _=>?_,fun i _=>?_,rfl,by omega,by simp⟩
    · dsimp only
      rw [rep_T]
      exact ⟨fun x hx=>(by cases hx),fun x hx=>(by cases hx),.nil,Nat.le_refl _,fun x hx=>(by cases hx),fun x hx=>(by cases hx)⟩
    · dsimp only
      rw [rep_S]
      exact .nil
    · dsimp only
      rw [rep_S]
      exact fun x hx=>(by cases hx)
  have g0:Dyn size.toNat ⟨List.replicate size.toNat ⟨[]⟩,List.replicate size.toNat [],[],[],false⟩:=by
    refine ⟨fun i p _ _ x hx=>(by cases hx),fun i p hi _ y=>?_⟩
    rw [bst_iff (h0.tk hi)]
    dsimp only
    rw [rep_S,rep_T]
    constructor
    · rintro ⟨q,_⟩
      cases q
    · rintro ⟨_,⟨c,q,_⟩,_⟩
      cases q
  exact Sat.bind (built_l1 script _ 0 [] h0 g0 (Nat.le_refl _) (by omega)) fun n hn=>⟨_,rfl,fun _=>hn⟩
theorem cand_l1 : ∀ (l h:List THop),h.length + l.length < 1099511627776 → F30l1 h l = some (h ++ l)
  | [],h,_=>by rw [F30l1,List.append_nil]
  | x :: l,h,hn=>by
    rw [List.length_cons] at hn
    rw [F30l1,decide_eq_true (show h.length < 1099511627776 by omega),cond_true,cand_l1 l (h ++ [x]) (by simp; omega)]
    simp
theorem cand_eq {c:qj} (h:c.Hops.length ≤ 1000):F30 c = some c:=by
  unfold F30
  rw [cand_l1 _ _ (by simp; omega),ob_some]
  rfl
theorem l8_alive:F8 = some true:=by kernel_rfl
theorem from_l2 {at1:Int} {c:qj} : ∀ (l:List zz) (b:Bool),(b = true ∨ ∃ x ∈ l,x.From = c.From ∧ x.To = at1) → F10l2 at1 c b l = some true
  | [],b,h=>by
    rw [F10l2]
    rcases h with h | ⟨x,hx,_⟩
    · rw [h]
    · cases hx
  | x :: l,b,h=>by
    rw [F10l2]
    cases b with
    | true =>
      rw [cond_true]
      exact from_l2 l true (.inl rfl)
    | false =>
      rw [cond_false]
      rcases h with h | ⟨y,hy,h1,h2⟩
      · cases h
      · by_cases hf:x.From = c.From
        · rw [decide_eq_true hf,cond_true]
          refine from_l2 l _ ?_
          rcases List.mem_cons.1 hy with rfl | hy
          · exact .inl (decide_eq_true h2)
          · exact .inr ⟨y,hy,h1,h2⟩
        · rw [decide_eq_false hf,cond_false]
          refine from_l2 l _ ?_
          rcases List.mem_cons.1 hy with rfl | hy
          · exact absurd h1 hf
          · exact .inr ⟨y,hy,h1,h2⟩
theorem from_l1 {c d:qj} (hdp:d.P = c.P) (hdl:d.Leaked = false) (he:c = ⟨d.P,d.Proto,d.Inst,d.Dist,d.Metric,d.Tag,true,c.From,d.Hops⟩) (hh:c.Hops.length ≤ 1000) : ∀ row:List qj,(∀ y ∈ row,y.P = c.P → y = d) → d ∈ row → F10l1 c row = some (.error true)
  | [],_,h=>by cases h
  | x :: row,hd,h=>by
    rw [F10l1,peq]
    by_cases hp:x.P = c.P
    · have hrd:x = d:=hd _ List.mem_cons_self hp
      rw [decide_eq_true hp,cond_true,hrd,hdl,cond_false,← he,cand_eq hh,ob_some,ob_some,same_refl]
    · rw [decide_eq_false hp,cond_false]
      refine from_l1 hdp hdl he hh row (fun y hy=>hd y (List.mem_cons_of_mem _ hy)) ?_
      rcases List.mem_cons.1 h with rfl | h
      · exact absurd hdp hp
      · exact h
theorem from_ok {s k:Nat} {PS:List zy} {n m:TNet} (h:Done s PS k n m) {i:Int} (hi:In s i) {c:qj} (hc:c ∈ (tT m.T i).L) (hk:c.Leaked = true):F10 m i c = some true:=by
  obtain ⟨x,hx,e1,e2⟩:=(h.wf.tw i hi).cov c hc hk
  have hf:=(h.wf.lk x hx).1
  have hno : ∀ j p,(⟨j,p⟩ : zw) ∉ m.Work:=fun j p=>by rw [h.work]; exact List.not_mem_nil
  have ht:=(h.dyn.U x.From c.P hf (hno _ _) x hx rfl c).1 ⟨by rw [e2]; exact hc,hk,e1.symm,rfl⟩
  obtain ⟨_,_,_,d,h1,_,_,h4⟩:=told_eq (h.wf.tk hf) ht
  obtain ⟨h5,h6⟩:=op_some.1 h1
  have hsel:=h.dyn.M x.From c.P hf (hno _ _)
  unfold F10
  rw [from_l2 m.L false (.inr ⟨x,hx,e1,e2⟩),ob_some,cond_true,← e1]
  have:=hf.1
  have:=hf.2
  have hS:=h.wf.S
  rw [decide_eq_false (show ¬ x.From < 0 by omega),cond_false,decide_eq_false (show ¬ (m.Sel.length:Int) ≤ x.From by omega),cond_false,sT_get hS hf,ob_some]
  have hdm:=(hsel d).2 h5
  have:=((h.wf.tw i hi).may c hc).hops
  rw [from_l1 hdm.2 h6 (by rw [← e1]; exact h4) (by omega) (sT m.Sel x.From) (fun y hy hyp=>by
    have:=(hsel y).1 ⟨hy,hyp⟩
    rw [h5] at this
    injection this with this
    exact this.symm) hdm.1]
  rfl
theorem native_l1 {c21:TNet × Int} {i:Nat} : ∀ l:List qj,(∀ c ∈ l,c.Leaked = true → F10 c21.1 (i:Int) c = some true) → F3l1 c21 i l = some (.ok ())
  | [],_=>rfl
  | x :: l,h=>by
    rw [F3l1]
    have ih:=native_l1 l fun c hc=>h c (List.mem_cons_of_mem _ hc)
    cases hk:x.Leaked with
    | true=>rw [cond_true,h x List.mem_cons_self hk,ob_some,cond_true]; exact ih
    | false=>rw [cond_false]; exact ih
theorem native_l2 {s k:Nat} {PS:List zy} {n m:TNet} (h:Done s PS k n m) (c:Int) : ∀ (l:List qk) (i:Nat),m.T.drop i = l → F3l2 (m,c) i l = some (.ok ())
  | [],i,_=>rfl
  | x :: l,i,e=>by
    rw [F3l2]
    have hi:i < m.T.length:=by
      rcases Nat.lt_or_ge i m.T.length with q | q
      · exact q
      · rw [List.drop_eq_nil_of_le q] at e
        cases e
    rw [List.drop_eq_getElem_cons hi] at e
    injection e with e1 e2
    have hs:In s (i:Int):=⟨by omega,by have:=h.wf.T; omega⟩
    have hx:tT m.T (i:Int) = x:=by
      unfold tT
      rw [Int.toNat_natCast,List.getD_eq_getElem?_getD,List.getElem?_eq_getElem hi,e1]
      rfl
    rw [native_l1 x.L fun y hy hk=>from_ok h hs (by rw [hx]; exact hy) hk]
    exact native_l2 h c l (i + 1) e2
theorem leakNative_true (size0:Int) (script1:List TAct) {p q:Prop} (_:p) (_:q):F3 size0 script1 = some true:=by
  unfold F3
  obtain ⟨r,e,h⟩:=built_net size0 script1
  rw [e,ob_some,l8_alive,ob_some]
  cases hr:r.2 with
  | false=>rw [cond_false]
  | true =>
    rw [cond_true]
    obtain ⟨s,PS,k,h1,h2⟩:=h hr
    obtain ⟨m,c,k1,_,k3⟩:=drain_spec PS h1 h2 (fun w hw=>(h1.wk w hw).2) (by have:=h1.p30; omega) []
    rw [k1,ob_some,native_l2 k3 c m.T 0 (List.drop_zero ..)]
    rfl
end Go.Proofs.YtmfggjebbhdejaaGreat.Abs
