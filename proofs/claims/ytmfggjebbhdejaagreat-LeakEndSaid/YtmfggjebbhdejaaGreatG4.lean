/- A part of the proof: LY, A29, A30. -/
import Derived.KernelRfl
import Derived.RangeFuncLeaves
import Derived.RangeFuncKeeps
import Derived.Sort.LoopGhostIn
import Derived.Test.YtmfggjebbhdejaaGreatG3
set_option linter.unusedVariables false
set_option linter.unusedSimpArgs false
set_option maxRecDepth 100000
set_option maxHeartbeats 4000000
namespace Go.Proofs.YtmfggjebbhdejaaGreat.Abs
open Go
def cmpI (x y:Int):Int:=if x < y then -1 else if y < x then 1 else 0
theorem cmp50 (x y:Int):F127 x y = cmpI x y:=by
  unfold F127 F154 cmpI
  by_cases h:x < y
  · simp [h]
  · by_cases h2:y < x
    · simp [h,h2]
    · simp [h,h2]
theorem cmp49 (x y:Int):F126 x y = cmpI x y:=cmp50 x y
def lexlt:List Int → List Int → Bool
  | x :: xs,y :: ys=>if x < y then true else if y < x then false else lexlt xs ys
  | _,_=>false
theorem or_nil:F125 [] = 0:=rfl
theorem or_cons (c:Int) (l:List Int):F125 (c :: l) = if c = 0 then F125 l else c:=by
  unfold F125
  rw [F125l1]
  by_cases h:c = 0
  · simp [h]
  · simp [h]
theorem or_lex : ∀ (a b:List Int),decide (F125 (List.zipWith cmpI a b) < 0) = lexlt a b
  | [],_=>by simp [lexlt,or_nil]
  | _ :: _,[]=>by simp [lexlt,or_nil]
  | x :: xs,y :: ys=>by
    rw [List.zipWith_cons_cons,or_cons,lexlt]
    unfold cmpI
    by_cases h:x < y
    · simp [h]
    · by_cases h2:y < x
      · simp [h,h2]
      · simp only [h,h2,if_false,if_true]
        exact or_lex xs ys
def lkN (c:qj):Int:=if c.Leaked = true then 1 else 0
def keyL (c:qj):List Int:=[c.P.A,c.P.N,lkN c,c.From,c.Proto,c.Inst]
def rankL (c:qj):List Int:=[c.Dist,lkN c,c.Proto,c.Metric,c.Inst,c.From]
theorem leaked_eq (c:qj):F128 c = lkN c:=by
  unfold F128 lkN
  cases c.Leaked <;> rfl
theorem gO (a b:qj):IntKind.i64.wrap (lkN a - lkN b) = cmpI (lkN a) (lkN b):=by
  unfold lkN cmpI
  cases a.Leaked <;> cases b.Leaked <;> decide
theorem dR (a b:qj):F87 a b = lexlt (rankL a) (rankL b):=by
  unfold F87 F118
  simp only [cmp50,leaked_eq,gO]
  rw [← or_lex]
  rfl
structure MayP (c:qj):Prop where
  p:F124 c.P = true
  proto:0 ≤ c.Proto ∧ c.Proto ≤ 5
  inst:0 ≤ c.Inst ∧ c.Inst ≤ 99
  metric:0 ≤ c.Metric
  from_:0 ≤ c.From ∧ c.From ≤ 31
  hops:1 ≤ (c.Hops.length:Int) ∧ (c.Hops.length:Int) ≤ 8
  leak:c.Leaked = true ∨ c.From = 0
  d0:c.Proto = 0 → c.Dist = 0
  d1:c.Proto ≠ 0 → 1 ≤ c.Dist ∧ c.Dist ≤ 255
theorem may8 (c:qj):F89 c = true ↔ MayP c:=by
  unfold F89 F123
  constructor
  · intro h
    by_cases h0:c.Proto = 0
    · by_cases hf:0 ≤ c.From ∧ c.From ≤ 31
      · cases hl:c.Leaked with
        | true =>
          simp [h0,hf,hl] at h
          exact ⟨h.1,by omega,h.2.1,h.2.2.1,hf,by omega,.inl hl,fun _=>h.2.2.2.1,fun e=>absurd h0 e⟩
        | false =>
          simp [h0,hf,hl] at h
          exact ⟨h.1,by omega,h.2.1,h.2.2.1,hf,by omega,.inr h.2.2.2.2.1,fun _=>h.2.2.2.1,fun e=>absurd h0 e⟩
      · have:((decide (0 ≤ c.From)) && (decide (c.From ≤ 31))) = false:=by rw [Bool.eq_false_iff]; intro k; simp at k; exact hf k
        simp [h0,this] at h
    · by_cases hf:0 ≤ c.From ∧ c.From ≤ 31
      · cases hl:c.Leaked with
        | true =>
          simp [h0,hf,hl] at h
          exact ⟨h.1,h.2.1,h.2.2.1,h.2.2.2.1,hf,by omega,.inl hl,fun e=>absurd e h0,fun _=>h.2.2.2.2.1⟩
        | false =>
          simp [h0,hf,hl] at h
          exact ⟨h.1,h.2.1,h.2.2.1,h.2.2.2.1,hf,by omega,.inr h.2.2.2.2.2.1,fun e=>absurd e h0,fun _=>h.2.2.2.2.1⟩
      · have:((decide (0 ≤ c.From)) && (decide (c.From ≤ 31))) = false:=by rw [Bool.eq_false_iff]; intro k; simp at k; exact hf k
        simp [h0,this] at h
  · rintro ⟨p,pr,ins,me,fr,ho,le,d0,d1⟩
    by_cases h0:c.Proto = 0
    · have:=d0 h0
      cases hl:c.Leaked with
      | true=>simp [h0,fr,hl,p,ins,me,this]; omega
      | false =>
        have hf:c.From = 0:=by rcases le with h | h; rw [hl] at h; cases h; exact h
        simp [h0,hf,hl,p,ins,me,this]; omega
    · have:=d1 h0
      cases hl:c.Leaked with
      | true=>simp [h0,fr,hl,p,ins,me,this,pr]; omega
      | false =>
        have hf:c.From = 0:=by rcases le with h | h; rw [hl] at h; cases h; exact h
        simp [h0,hf,hl,p,ins,me,this,pr]; omega
theorem bo {α:Type} {L:List α} {i:Nat} {x:α} (h:L[i]? = some x):getI L (i:Int) = some x:=by
  unfold getI
  rw [if_pos (by omega)]
  simpa using h
theorem bK : ∀ a:List Int,lexlt a a = false
  | []=>rfl
  | x :: xs=>by
    rw [lexlt]
    simp [bK xs]
theorem cn : ∀ {a b c:List Int},lexlt a b = true → lexlt b c = true → lexlt a c = true
  | [],_,_,h,_=>by simp [lexlt] at h
  | _ :: _,[],_,h,_=>by simp [lexlt] at h
  | _ :: _,_ :: _,[],_,h=>by simp [lexlt] at h
  | x :: xs,y :: ys,z :: zs,h,k=>by
    rw [lexlt] at h k ⊢
    by_cases h1:x < y
    · by_cases k1:y < z
      · rw [if_pos (by omega)]
      · rw [if_neg k1] at k
        by_cases k2:z < y
        · rw [if_pos k2] at k; cases k
        · rw [if_pos (by omega)]
    · rw [if_neg h1] at h
      by_cases h2:y < x
      · rw [if_pos h2] at h; cases h
      · rw [if_neg h2] at h
        by_cases k1:y < z
        · rw [if_pos (by omega)]
        · rw [if_neg k1] at k
          by_cases k2:z < y
          · rw [if_pos k2] at k; cases k
          · rw [if_neg k2] at k
            rw [if_neg (by omega),if_neg (by omega)]
            exact cn h k
theorem ea : ∀ {a b:List Int},a.length = b.length → lexlt a b = false → lexlt b a = false → a = b
  | [],[],_,_,_=>rfl
  | [],_ :: _,h,_,_=>by simp at h
  | _ :: _,[],h,_,_=>by simp at h
  | x :: xs,y :: ys,hl,h,k=>by
    rw [lexlt] at h k
    by_cases h1:x < y
    · rw [if_pos h1] at h; cases h
    · rw [if_neg h1] at h
      by_cases h2:y < x
      · rw [if_pos h2] at k; cases k
      · rw [if_neg h2] at h
        rw [if_neg h2,if_neg h1] at k
        have e:x = y:=by omega
        rw [e,ea (by simpa using hl) h k]
def Kl (a b:qj):Prop:=lexlt (keyL a) (keyL b) = true
theorem Kl.trans {a b c:qj} (h:Kl a b) (k:Kl b c):Kl a c:=cn h k
def PLe (a b:qj):Prop:=a.P.A < b.P.A ∨ (a.P.A = b.P.A ∧ a.P.N ≤ b.P.N)
def PLt (a b:qj):Prop:=a.P.A < b.P.A ∨ (a.P.A = b.P.A ∧ a.P.N < b.P.N)
theorem PLt.ne {a b:qj} (h:PLt a b):a.P ≠ b.P:=by
  intro e
  unfold PLt at h
  rw [e] at h
  omega
theorem PLe.cases {a b:qj} (h:PLe a b):a.P = b.P ∨ PLt a b:=by
  unfold PLe PLt at *
  by_cases h1:a.P.A = b.P.A
  · by_cases h2:a.P.N = b.P.N
    · left
      cases ha:a.P; cases hb:b.P
      rw [ha,hb] at h1 h2
      simp only at h1 h2
      subst h1 h2
      rfl
    · right; omega
  · right; omega
theorem Kl.ple {a b:qj} (h:Kl a b):PLe a b:=by
  unfold Kl keyL at h
  rw [lexlt] at h
  unfold PLe
  by_cases h1:a.P.A < b.P.A
  · exact .inl h1
  · rw [if_neg h1] at h
    by_cases h2:b.P.A < a.P.A
    · rw [if_pos h2] at h; cases h
    · rw [if_neg h2,lexlt] at h
      by_cases h3:a.P.N < b.P.N
      · right; omega
      · rw [if_neg h3] at h
        by_cases h4:b.P.N < a.P.N
        · rw [if_pos h4] at h; cases h
        · right; omega
theorem gI {t:qk} {h:THop} : ∀ (l:List qj) (i:Nat) (at6:Int),i + l.length = t.L.length → (at6 = -1 ∨ ∃ j:Nat,at6 = j ∧ j < t.L.length) → ∃ a,F148l1 t h at6 i l = some a ∧ (a = -1 ∨ ∃ j:Nat,a = j ∧ j < t.L.length)
  | [],i,at6,_,ha=>⟨at6,by rw [F148l1],ha⟩
  | x :: l,i,at6,hi,ha=>by
    simp only [List.length_cons] at hi
    have ih:=fun a ha=>gI (t:=t) (h:=h) l (i + 1) a (by omega) ha
    have hn:(i:Int) = -1 ∨ ∃ j:Nat,(i:Int) = j ∧ j < t.L.length:=.inr ⟨i,rfl,by omega⟩
    rw [F148l1]
    cases decide (x.Proto = 0)
    · exact ih _ ha
    · cases x.Leaked
      · simp only [cond_true,cond_false]
        cases F167 x.P h.Gate
        · exact ih _ ha
        · simp only [cond_true]
          rcases ha with ha | ⟨j,ha,hj⟩
          · subst ha
            exact ih _ hn
          · subst ha
            have d:decide ((j:Int) < 0) = false:=by simp
            rw [d]
            simp only [cond_false]
            rw [bo (List.getElem?_eq_getElem hj)]
            simp only [obind]
            cases decide (t.L[j].P.N < x.P.N)
            · exact ih _ (.inr ⟨j,rfl,hj⟩)
            · exact ih _ hn
      · exact ih _ ha
theorem resolve_some {t:qk} (hT : ∀ c ∈ t.L,1 ≤ c.Hops.length) (h:THop) : ∃ r,F148 t h = some r:=by
  unfold F148
  cases decide (h.Gate = 0)
  · simp only [cond_false]
    obtain ⟨a,e,ha⟩:=gI (t:=t) (h:=h) t.L 0 (-1) (by omega) (.inl rfl)
    rw [e]
    simp only [obind]
    rcases ha with rfl | ⟨j,rfl,hj⟩
    · exact ⟨_,rfl⟩
    · have d:decide ((j:Int) < 0) = false:=by simp
      rw [d,bo (List.getElem?_eq_getElem hj)]
      simp only [cond_false]
      have hh:=hT _ (List.getElem_mem hj)
      have e0:getI t.L[j].Hops 0 = some (t.L[j].Hops[0]'(by omega)):=bo (i:=0) (List.getElem?_eq_getElem (by omega))
      rw [e0]
      exact ⟨_,rfl⟩
  · exact ⟨_,rfl⟩
theorem gN {t:qk} (hT : ∀ c ∈ t.L,1 ≤ c.Hops.length) : ∀ (l out:List THop),out.length + l.length < 1099511627776 → ∃ o,F117l1 t out l = some o ∧ o.length ≤ out.length + l.length
  | [],out,_=>⟨out,by rw [F117l1],by simp⟩
  | x :: l,out,hn=>by
    simp only [List.length_cons] at hn
    rw [F117l1]
    obtain ⟨⟨r,b⟩,hr⟩:=resolve_some hT x
    rw [hr]
    simp only [obind]
    cases b with
    | false =>
      obtain ⟨o,h1,h2⟩:=gN hT l out (by omega)
      exact ⟨o,h1,by simp only [List.length_cons]; omega⟩
    | true =>
      have d:decide (out.length < 1099511627776) = true:=by simp; omega
      rw [d]
      simp only [cond_true]
      obtain ⟨o,h1,h2⟩:=gN hT l (out ++ [r]) (by simp; omega)
      exact ⟨o,h1,by simp at h2 ⊢; omega⟩
structure Lv (x c:qj):Prop where
  P:x.P = c.P
  rank:rankL x = rankL c
  hops:x.Hops.length ≤ c.Hops.length
theorem lives_some {t:qk} (hT : ∀ c ∈ t.L,1 ≤ c.Hops.length) {c:qj} (hc:c.Hops.length < 1000) : ∃ x ok,F117 t c = some (x,ok) ∧ (ok = true → Lv x c):=by
  unfold F117
  cases decide (c.Proto = 1)
  · exact ⟨c,true,rfl,fun _=>⟨rfl,rfl,Nat.le_refl _⟩⟩
  · cases hl:c.Leaked
    · simp only [cond_true,cond_false]
      obtain ⟨o,h1,h2⟩:=gN hT c.Hops [] (by simp; omega)
      rw [h1]
      simp only [obind]
      cases decide ((o.length:Int) = 0)
      · refine ⟨_,true,rfl,fun _=>⟨rfl,?_,by simpa using h2⟩⟩
        unfold rankL lkN
        rw [hl]
      · exact ⟨_,false,rfl,fun h=>by cases h⟩
    · exact ⟨c,true,rfl,fun _=>⟨rfl,rfl,Nat.le_refl _⟩⟩
structure LivS (t:qk) (l liv:List qj):Prop where
  eq:livesL t l = some liv
  mem : ∀ x ∈ liv,∃ c ∈ l,F117 t c = some (x,true) ∧ Lv x c
  cov : ∀ c ∈ l,∀ x,F117 t c = some (x,true) → x ∈ liv
  srt:l.Pairwise PLe → liv.Pairwise PLe
  len:liv.length ≤ l.length
theorem fZ {t:qk} (hT : ∀ c ∈ t.L,1 ≤ c.Hops.length) : ∀ (l:List qj),(∀ c ∈ l,c.Hops.length < 1000) → ∃ liv,LivS t l liv
  | [],_=>⟨[],rfl,fun x hx=>(by cases hx),fun c hc=>(by cases hc),fun _=>.nil,Nat.le_refl _⟩
  | c :: l,hl=>by
    obtain ⟨liv,h⟩:=fZ hT l fun y hy=>hl y (List.mem_cons_of_mem _ hy)
    obtain ⟨x,ok,e,hx⟩:=lives_some hT (hl c List.mem_cons_self)
    refine ⟨bif ok then x :: liv else liv,by rw [livesL,e]; simp only; rw [h.eq],fun y hy=>?_,fun d hd y hy=>?_,fun hs=>?_,?_⟩
    · cases ok with
      | false =>
        obtain ⟨d,h1,h2⟩:=h.mem y hy
        exact ⟨d,List.mem_cons_of_mem _ h1,h2⟩
      | true =>
        rcases List.mem_cons.1 hy with rfl | hy
        · exact ⟨c,List.mem_cons_self,e,hx rfl⟩
        · obtain ⟨d,h1,h2⟩:=h.mem y hy
          exact ⟨d,List.mem_cons_of_mem _ h1,h2⟩
    · rcases List.mem_cons.1 hd with rfl | hd
      · rw [e] at hy
        injection hy with hy
        injection hy with h1 h2
        subst h1 h2
        exact List.mem_cons_self
      · have:=h.cov d hd y hy
        cases ok
        · exact this
        · exact List.mem_cons_of_mem _ this
    · rw [List.pairwise_cons] at hs
      cases ok with
      | false=>exact h.srt hs.2
      | true =>
        refine List.pairwise_cons.2 ⟨fun y hy=>?_,h.srt hs.2⟩
        obtain ⟨d,h1,_,h2⟩:=h.mem y hy
        have:=hs.1 d h1
        unfold PLe at this ⊢
        rw [(hx rfl).P,h2.P]
        exact this
    · have:=h.len
      cases ok
      · simp only [cond_false,List.length_cons]; omega
      · simp only [cond_true,List.length_cons]; omega
theorem eJ (a:qj):F87 a a = false:=by rw [dR]; exact bK _
theorem better_trans {a b c:qj} (h:F87 a b = true) (k:F87 b c = true):F87 a c = true:=by rw [dR] at *; exact cn h k
structure AllS (pre row:List qj):Prop where
  mem : ∀ e ∈ row,e ∈ pre
  cov : ∀ d ∈ pre,∃ e ∈ row,e.P = d.P ∧ F87 d e = false
  srt:row.Pairwise PLt
theorem all_l1 : ∀ (l pre row:List qj),AllS pre row → (pre ++ l).Pairwise PLe → row.length ≤ pre.length → pre.length + l.length ≤ 1000 → ∃ all,F44 row l = some all ∧ AllS (pre ++ l) all ∧ all.length ≤ pre.length + l.length
  | [],pre,row,h,_,hn,_=>⟨row,by rw [F44],by rw [List.append_nil]; exact h,by simpa using hn⟩
  | x :: l,pre,row,h,hs,hn,hl=>by
    have he:pre ++ x :: l = (pre ++ [x]) ++ l:=by simp
    simp only [List.length_cons] at hl
    have next : ∀ row',AllS (pre ++ [x]) row' → row'.length ≤ pre.length + 1 → ∃ all,F44 row' l = some all ∧ AllS (pre ++ x :: l) all ∧ all.length ≤ pre.length + (l.length + 1):=by
      intro row' h' hn'
      obtain ⟨all,e,k1,k2⟩:=all_l1 l (pre ++ [x]) row' h' (by rw [← he]; exact hs) (by simpa using hn') (by simp; omega)
      exact ⟨all,e,by rw [he]; exact k1,by simp at k2; omega⟩
    have hpx : ∀ d ∈ pre,PLe d x:=by
      rw [List.pairwise_append] at hs
      exact fun d hd=>hs.2.2 d hd x List.mem_cons_self
    have d0:decide (row.length < 1099511627776) = true:=by simp; omega
    have app:(∀ e ∈ row,PLt e x) → AllS (pre ++ [x]) (row ++ [x]):=fun hlt =>
      ⟨fun e hm=>by
        rcases List.mem_append.1 hm with hm | hm
        · exact List.mem_append_left _ (h.mem e hm)
        · exact List.mem_append_right _ hm,
       fun d hd=>by
        rcases List.mem_append.1 hd with hd | hd
        · obtain ⟨e,h1,h2⟩:=h.cov d hd
          exact ⟨e,List.mem_append_left _ h1,h2⟩
        · rw [List.mem_singleton.1 hd]
          exact ⟨x,by simp,rfl,eJ x⟩,
       by
        rw [List.pairwise_append]
        exact ⟨h.srt,List.pairwise_singleton _ _,fun a ha b hb=>by rw [List.mem_singleton.1 hb]; exact hlt a ha⟩⟩
    rw [F44]
    rcases List.eq_nil_or_concat row with rfl | ⟨r',y,hrow⟩
    · have d:decide (IntKind.i64.wrap ((([]:List qj).length:Int) - 1) < 0) = true:=by decide
      rw [d,d0]
      simp only [cond_true]
      exact next _ (app fun e hm=>by cases hm) (by simp)
    · rw [List.concat_eq_append] at hrow
      subst hrow
      have hw:IntKind.i64.wrap (((r' ++ [y]).length:Int) - 1) = ((r'.length:Nat):Int):=by
        have:(r' ++ [y]).length = r'.length + 1:=by simp
        rw [this,wi64 (by omega) (by omega)]
        omega
      have d:decide (((r'.length:Nat):Int) < 0) = false:=by simp
      have hg:getI (r' ++ [y]) ((r'.length:Nat):Int) = some y:=bo (by simp)
      have hy:y ∈ pre:=h.mem y (by simp)
      have hsr:=h.srt
      rw [List.pairwise_append] at hsr
      have hry : ∀ e ∈ r',PLt e y:=fun e hm=>hsr.2.2 e hm y (by simp)
      simp only [hw,d,hg,cond_false]
      rcases (hpx y hy).cases with hP | hP
      · have dP:(decide (y.P.A = x.P.A) && (decide (y.P.N = x.P.N) && true)) = true:=by rw [hP]; simp
        simp only [dP,cond_true]
        cases hb:F87 x y with
        | true =>
          simp only [cond_true,Int.toNat_natCast]
          have hset:(r' ++ [y]).set r'.length x = r' ++ [x]:=by simp
          rw [hset]
          refine next _ ⟨fun e hm=>?_,fun d hd=>?_,?_⟩ (by simp at hn ⊢; omega)
          · rcases List.mem_append.1 hm with hm | hm
            · exact List.mem_append_left _ (h.mem e (List.mem_append_left _ hm))
            · exact List.mem_append_right _ hm
          · rcases List.mem_append.1 hd with hd | hd
            · obtain ⟨e,h1,h2,h3⟩:=h.cov d hd
              rcases List.mem_append.1 h1 with h1 | h1
              · exact ⟨e,List.mem_append_left _ h1,h2,h3⟩
              · rw [List.mem_singleton.1 h1] at h2 h3
                refine ⟨x,by simp,by rw [← hP]; exact h2,?_⟩
                cases k:F87 d x with
                | false=>rfl
                | true=>rw [better_trans k hb] at h3; cases h3
            · rw [List.mem_singleton.1 hd]
              exact ⟨x,by simp,rfl,eJ x⟩
          · rw [List.pairwise_append]
            refine ⟨hsr.1,List.pairwise_singleton _ _,fun a ha b hb=>?_⟩
            rw [List.mem_singleton.1 hb]
            have:=hry a ha
            unfold PLt at this ⊢
            rw [← hP]
            exact this
        | false =>
          simp only [cond_false]
          refine next _ ⟨fun e hm=>List.mem_append_left _ (h.mem e hm),fun d hd=>?_,h.srt⟩ (by omega)
          rcases List.mem_append.1 hd with hd | hd
          · exact h.cov d hd
          · rw [List.mem_singleton.1 hd]
            exact ⟨y,by simp,hP,hb⟩
      · have dP:(decide (y.P.A = x.P.A) && (decide (y.P.N = x.P.N) && true)) = false:=by
          rw [Bool.eq_false_iff]
          intro k
          simp at k
          unfold PLt at hP
          omega
        simp only [dP,d0,cond_true,cond_false]
        refine next _ (app fun e hm=>?_) (by simp at hn ⊢; omega)
        rcases List.mem_append.1 hm with hm | hm
        · have:=hry e hm
          unfold PLt at this hP ⊢
          omega
        · rw [List.mem_singleton.1 hm]
          exact hP
structure Counts (t:qk) (liv all:List qj):Prop where
  lv:LivS t t.L liv
  eq:allO t = some all
  al:AllS liv all
theorem all_one {all:List qj} (h:all.Pairwise PLt) {a b:qj} (ha:a ∈ all) (hb:b ∈ all) (e:a.P = b.P):a = b:=by
  obtain ⟨i,hi,rfl⟩:=List.getElem_of_mem ha
  obtain ⟨j,hj,rfl⟩:=List.getElem_of_mem hb
  rcases Nat.lt_trichotomy i j with q | q | q
  · exact absurd e (List.pairwise_iff_getElem.1 h i j hi hj q).ne
  · subst q; rfl
  · exact absurd e.symm (List.pairwise_iff_getElem.1 h j i hj hi q).ne
theorem fi (f:qj → Bool) : ∀ (l:List qj) (i:Nat),(∃ pre x r,l = pre ++ x :: r ∧ f x = true ∧ F115l1 f i l = .error ((i + pre.length:Nat):Int)) ∨ ((∀ y ∈ l,f y = false) ∧ F115l1 f i l = .ok ())
  | [],i=>.inr ⟨fun y hy=>(by cases hy),rfl⟩
  | x :: l,i=>by
    rw [F115l1]
    cases hx:f x with
    | true=>exact .inl ⟨[],x,l,rfl,hx,by simp⟩
    | false =>
      simp only [cond_false]
      rcases fi f l (i + 1) with ⟨pre,y,r,e,h1,h3⟩ | ⟨h1,h2⟩
      · refine .inl ⟨x :: pre,y,r,by rw [e]; rfl,h1,?_⟩
        rw [h3]
        simp only [List.length_cons]
        rw [show i + 1 + pre.length = i + (pre.length + 1) by omega]
      · refine .inr ⟨fun z hz=>?_,h2⟩
        rcases List.mem_cons.1 hz with rfl | hz
        · exact hx
        · exact h1 z hz
abbrev zC:qj:=⟨⟨0,0⟩,0,0,0,0,0,false,0,[]⟩
theorem peq (a b:zy):(decide (a.A = b.A) && (decide (a.N = b.N) && true)) = decide (a = b):=by
  rw [Bool.eq_iff_iff]
  obtain ⟨_,_⟩:=a
  obtain ⟨_,_⟩:=b
  simp
theorem eA {t:qk} {all:List qj} (hall:allO t = some all) (p:zy):(∃ e ∈ all,e.P = p ∧ F107 t p = some (e,true)) ∨ ((∀ e ∈ all,e.P ≠ p) ∧ F107 t p = some (zC,false)):=by
  unfold F107 F115
  rw [hall]
  simp only [obind]
  rcases fi (fun y0=>F142 y0 p) all 0 with ⟨pre,x,r,e,h1,h3⟩ | ⟨h1,h2⟩
  · left
    unfold F142 at h1
    rw [peq] at h1
    refine ⟨x,by rw [e]; simp,by simpa using h1,?_⟩
    rw [h3]
    simp only [Nat.zero_add]
    have d:decide (((pre.length:Nat):Int) < 0) = false:=by simp
    rw [d,bo (x:=x) (by rw [e]; simp)]
    rfl
  · right
    rw [h2]
    refine ⟨fun e he k=>?_,rfl⟩
    have:=h1 e he
    unfold F142 at this
    rw [peq] at this
    simp at this
    exact this k
theorem byKey_or (a b:qj):F91 a b = F125 (List.zipWith cmpI (keyL a) (keyL b)):=by
  unfold F91
  simp only [cmp49,cmp50,leaked_eq,gO]
  rfl
theorem or_zero : ∀ {a b:List Int},a.length = b.length → F125 (List.zipWith cmpI a b) = 0 → a = b
  | [],[],_,_=>rfl
  | [],_ :: _,h,_=>by simp at h
  | _ :: _,[],h,_=>by simp at h
  | x :: xs,y :: ys,hl,h=>by
    rw [List.zipWith_cons_cons,or_cons] at h
    unfold cmpI at h
    by_cases h1:x < y
    · simp [h1] at h
    · by_cases h2:y < x
      · simp [h1,h2] at h
      · simp only [h1,h2,if_false,if_true] at h
        rw [or_zero (by simpa using hl) h,show x = y by omega]
def sm:List Nat → Nat
  | []=>0
  | x :: l=>x + sm l
theorem sm_app : ∀ a b:List Nat,sm (a ++ b) = sm a + sm b
  | [],b=>by simp [sm]
  | x :: a,b=>by rw [List.cons_append,sm,sm_app a b,sm]; omega
theorem sm_le {α:Type} {f g:α → Nat} : ∀ {l:List α},(∀ x ∈ l,f x ≤ g x) → sm (l.map f) ≤ sm (l.map g)
  | [],_=>Nat.le_refl _
  | x :: l,h=>by
    have h1:=h x List.mem_cons_self
    have h2:=sm_le (f:=f) (g:=g) (l:=l) fun y hy=>h y (List.mem_cons_of_mem _ hy)
    simp only [List.map_cons,sm]
    omega
theorem sm_add {α:Type} (f g:α → Nat) : ∀ l:List α,sm (l.map fun x=>f x + g x) = sm (l.map f) + sm (l.map g)
  | []=>rfl
  | x :: l=>by
    have:=sm_add f g l
    simp only [List.map_cons,sm]
    omega
theorem dY {α:Type} (c:Nat) : ∀ l:List α,sm (l.map fun _=>c) = c * l.length
  | []=>rfl
  | x :: l=>by
    have:=dY c l
    simp only [List.map_cons,sm,List.length_cons,Nat.mul_succ]
    omega
theorem sm_mul {α:Type} (c:Nat) (f:α → Nat) : ∀ l:List α,sm (l.map fun x=>c * f x) = c * sm (l.map f)
  | []=>rfl
  | x :: l=>by
    have:=sm_mul c f l
    simp only [List.map_cons,sm,Nat.mul_add]
    omega
theorem sm_pay {α:Type} {f f' e:α → Nat} {l:List α} {k:α} {C E:Nat} (hk:k ∈ l) (hE:sm (l.map e) ≤ E) (h0 : ∀ x ∈ l,f' x ≤ f x + e x) (h1:f' k + C ≤ f k):sm (l.map f') + C ≤ sm (l.map f) + E:=by
  have key : ∀ m:List α,k ∈ m → (∀ x ∈ m,f' x ≤ f x + e x) → sm (m.map f') + C ≤ sm (m.map f) + sm (m.map e):=by
    intro m
    induction m with
    | nil=>intro h; cases h
    | cons y m ih =>
      intro h g
      simp only [List.map_cons,sm]
      rcases List.mem_cons.1 h with rfl | h
      · have:=sm_le (f:=f') (g:=fun x=>f x + e x) (l:=m) fun x hx=>g x (List.mem_cons_of_mem _ hx)
        rw [sm_add] at this
        omega
      · have g1:=g y List.mem_cons_self
        have:=ih h fun x hx=>g x (List.mem_cons_of_mem _ hx)
        omega
  have:=key l hk h0
  omega
def gr (ds:List Int) (v:Int):Nat:=(ds.filter fun u=>decide (v < u)).length
theorem gr_le (ds:List Int) (v:Int):gr ds v ≤ ds.length:=List.length_filter_le _ _
theorem min_of : ∀ {ds:List Int},ds ≠ [] → ∃ m ∈ ds,∀ u ∈ ds,m ≤ u
  | [x],_=>⟨x,by simp,fun u hu=>by simp at hu; omega⟩
  | x :: y :: ds,_=>by
    obtain ⟨m,h1,h2⟩:=min_of (ds:=y :: ds) (by simp)
    by_cases h:x ≤ m
    · refine ⟨x,List.mem_cons_self,fun u hu=>?_⟩
      rcases List.mem_cons.1 hu with rfl | hu
      · exact Int.le_refl _
      · have:=h2 u hu; omega
    · refine ⟨m,List.mem_cons_of_mem _ h1,fun u hu=>?_⟩
      rcases List.mem_cons.1 hu with rfl | hu
      · omega
      · exact h2 u hu
theorem gr_mid {A B:List Int} {m v:Int} (h:m ≤ v):gr (A ++ m :: B) v = gr (A ++ B) v:=by
  unfold gr
  rw [List.filter_append,List.filter_cons,List.filter_append]
  have:decide (v < m) = false:=by simp; omega
  rw [this]
  rfl
theorem pow_sum : ∀ (n:Nat) (ds:List Int),ds.length ≤ n → sm (ds.map fun v=>2 ^ gr ds v) + 1 ≤ 2 ^ n
  | 0,ds,h=>by
    have:ds = []:=List.length_eq_zero_iff.1 (by omega)
    rw [this]
    decide
  | n + 1,ds,h=>by
    by_cases h0:ds = []
    · rw [h0]
      exact Nat.one_le_two_pow
    · obtain ⟨m,hm,hmin⟩:=min_of h0
      obtain ⟨A,B,rfl⟩:=List.append_of_mem hm
      have hl:(A ++ B).length ≤ n:=by simp at h ⊢; omega
      have ih:=pow_sum n (A ++ B) hl
      have e : ∀ l:List Int,(∀ v ∈ l,m ≤ v) → (l.map fun v=>2 ^ gr (A ++ m :: B) v) = l.map fun v=>2 ^ gr (A ++ B) v:=fun l hl=>List.map_congr_left fun v hv=>by rw [gr_mid (hl v hv)]
      rw [List.map_append,List.map_cons,sm_app,sm,e A fun v hv=>hmin v (by simp [hv]),e B fun v hv=>hmin v (by simp [hv]),gr_mid (Int.le_refl m)]
      rw [List.map_append,sm_app] at ih
      have h2:2 ^ gr (A ++ B) m ≤ 2 ^ n:=Nat.pow_le_pow_right (by decide) (Nat.le_trans (gr_le _ _) hl)
      rw [Nat.pow_succ]
      omega
def wt (ds:List Int) (v:Int):Nat:=5 * 2 ^ gr ds v
theorem gr_up {ds:List Int} {v u:Int} (h:v < u):gr (ds.filter fun x=>decide (v < x)) u = gr ds u:=by
  unfold gr
  rw [List.filter_filter]
  congr 1
  refine List.filter_congr fun x _=>?_
  by_cases h2:u < x
  · have:v < x:=by omega
    simp [h2,this]
  · simp [h2]
theorem wt_up (ds:List Int) (v:Int):sm ((ds.filter fun u=>decide (v < u)).map (wt ds)) + 5 ≤ wt ds v:=by
  have h:=pow_sum (gr ds v) (ds.filter fun u=>decide (v < u)) (Nat.le_refl _)
  have e:((ds.filter fun u=>decide (v < u)).map (wt ds)) = (ds.filter fun u=>decide (v < u)).map fun u=>5 * 2 ^ gr (ds.filter fun x=>decide (v < x)) u:=List.map_congr_left fun u hu=>by
    have:=(List.mem_filter.1 hu).2
    unfold wt
    rw [gr_up (by simpa using this)]
  rw [e,sm_mul]
  unfold wt
  omega
theorem wt_all {ds:List Int} {n:Nat} (h:ds.length ≤ n):sm (ds.map (wt ds)) + 5 ≤ 5 * 2 ^ n:=by
  have h:=pow_sum n ds h
  unfold wt
  rw [sm_mul]
  omega
theorem wt_if {α:Type} (d:α → Int) (l:List α) (v:Int):sm (l.map fun x=>if v < d x then wt (l.map d) (d x) else 0) + 5 ≤ wt (l.map d) v:=by
  have h:=wt_up (l.map d) v
  have e : ∀ (w:Int → Nat) (m:List α),sm (m.map fun x=>if v < d x then w (d x) else 0) = sm (((m.map d).filter fun u=>decide (v < u)).map w):=by
    intro w m
    induction m with
    | nil=>rfl
    | cons x m ih =>
      simp only [List.map_cons,sm,List.filter_cons]
      by_cases hx:v < d x
      · rw [if_pos hx,decide_eq_true hx,if_pos rfl,List.map_cons,sm,ih]
      · rw [if_neg hx,decide_eq_false hx]
        simpa using ih
  rw [e]
  exact h
theorem bV {α:Type} [DecidableEq α] : ∀ {a b:List α},a.Nodup → (∀ x ∈ a,x ∈ b) → a.length ≤ b.length
  | [],b,_,_=>Nat.zero_le _
  | x :: a,b,h,k=>by
    rw [List.nodup_cons] at h
    obtain ⟨A,B,rfl⟩:=List.append_of_mem (k x List.mem_cons_self)
    have:=bV (a:=a) (b:=A ++ B) h.2 fun y hy=>by
      have:=k y (List.mem_cons_of_mem _ hy)
      rw [List.mem_append,List.mem_cons] at this
      rcases this with q | rfl | q
      · exact List.mem_append_left _ q
      · exact absurd hy h.1
      · exact List.mem_append_right _ q
    simp at this ⊢
    omega
theorem aD {α β:Type} (x:α) (f:α → Option β):obind (some x) f = f x:=rfl
theorem ins_at {α:Type} (A B:List α) (c:α):db (A ++ B) (A.length:Int) [c] = A ++ c :: B:=by
  unfold db; simp
theorem del_at {α:Type} (A B:List α) (y:α):bY (A ++ y :: B) (A.length:Int) ((A.length:Int) + 1) = A ++ B:=by
  unfold bY
  have:((A.length:Int) + 1).toNat = A.length + 1:=by omega
  rw [this,Int.toNat_natCast,List.take_left' rfl,show A ++ y :: B = (A ++ [y]) ++ B by simp,List.drop_left' (by simp)]
theorem lset_at {α:Type} (A B:List α) (y c:α):(A ++ y :: B).set A.length c = A ++ c :: B:=by simp
theorem get_at {α:Type} (A B:List α) (y:α):getI (A ++ y :: B) (A.length:Int) = some y:=bo (by simp)
def bsq {α β:Type} (l:List α) (s:β) (h:α → β → Int):Nat → Int → Int → Option (Int × Int)
  | 0,_,_=>none
  | f + 1,i,j=>bif decide (i < j) then
        (obind (getI l (IntKind.i64.wrap (Int.fdiv (IntKind.u64.wrap (IntKind.i64.wrap (i + j))) (2 ^ 1)))) (fun x =>
           (bif decide (h x s < 0) then
             bsq l s h f (IntKind.i64.wrap ((IntKind.i64.wrap (Int.fdiv (IntKind.u64.wrap (IntKind.i64.wrap (i + j))) (2 ^ 1))) + 1)) j
           else
             bsq l s h f i (IntKind.i64.wrap (Int.fdiv (IntKind.u64.wrap (IntKind.i64.wrap (i + j))) (2 ^ 1))))))
      else some (i,j)
def bsQ {α β:Type} (l:List α) (s:β) (h:α → β → Int):Option (Int × Bool) :=
  obind (bsq l s h 100 0 (l.length:Int)) (fun a=>bif decide (a.1 < (l.length:Int)) then obind (getI l a.1) (fun x=>some (a.1,decide (h x s = 0))) else some (a.1,false))
theorem bq90 (l:List qj) (s:qj) (h:qj → qj → Int) : ∀ f i j,F90l1 l s h f i j = bsq l s h f i j
  | 0,_,_=>rfl
  | f + 1,i,j=>by unfold F90l1 bsq; simp only [bq90 l s h f]
theorem bq104 (l:List zw) (s:zw) (h:zw → zw → Int) : ∀ f i j,F104l1 l s h f i j = bsq l s h f i j
  | 0,_,_=>rfl
  | f + 1,i,j=>by unfold F104l1 bsq; simp only [bq104 l s h f]
theorem bq143 (l:List qj) (s:zy) (h:qj → zy → Int) : ∀ f i j,F143l1 l s h f i j = bsq l s h f i j
  | 0,_,_=>rfl
  | f + 1,i,j=>by unfold F143l1 bsq; simp only [bq143 l s h f]
theorem bQ90 (l:List qj) (s:qj) (h:qj → qj → Int):F90 l s h = bsQ l s h:=by
  unfold F90 bsQ; rw [bq90]
theorem bQ104 (l:List zw) (s:zw) (h:zw → zw → Int):F104 l s h = bsQ l s h:=by
  unfold F104 bsQ; rw [bq104]
theorem bQ143 (l:List qj) (s:zy) (h:qj → zy → Int):F143 l s h = bsQ l s h:=by
  unfold F143 bsQ; rw [bq143]
theorem bsq_l1 {α β:Type} {l:List α} {s:β} {h:α → β → Int} (hn:l.length ≤ 100000) (mono : ∀ a b (hb:b < l.length) (hab:a < b),h l[b] s < 0 → h (l[a]'(by omega)) s < 0) : ∀ (fuel i j:Nat),i ≤ j → j ≤ l.length → j - i < 2 ^ fuel →
    (∀ a (ha:a < l.length),a < i → h l[a] s < 0) → (∀ a (ha:a < l.length),j ≤ a → ¬ h l[a] s < 0) →
    ∃ c:Nat,bsq l s h (fuel + 1) (i:Int) (j:Int) = some ((c:Int),(c:Int)) ∧ c ≤ l.length ∧
      (∀ a (ha:a < l.length),a < c → h l[a] s < 0) ∧ (∀ a (ha:a < l.length),c ≤ a → ¬ h l[a] s < 0)
  | fuel,i,j,hij,hj,hf,hlo,hhi=>by
    unfold bsq
    by_cases hlt:i < j
    · have hlt':(i:Int) < (j:Int):=by omega
      simp only [hlt',decide_true,cond_true]
      rw [mid_eq (by omega) (by omega) (by omega),show ((i:Int) + (j:Int)) / 2 = (((i + j) / 2:Nat):Int) by omega]
      have hm:(i + j) / 2 < l.length:=by omega
      rw [bo (List.getElem?_eq_getElem hm),aD]
      match fuel,hf with
      | 0,hf=>omega
      | fuel + 1,hf =>
        have hf2:j - i < 2 * 2 ^ fuel:=by rw [Nat.pow_succ] at hf; omega
        by_cases hc:h l[(i + j) / 2] s < 0
        · rw [decide_eq_true hc,cond_true]
          rw [show IntKind.i64.wrap ((((i + j) / 2:Nat):Int) + 1) = (((i + j) / 2 + 1:Nat):Int) by rw [wi64 (by omega) (by omega)]; omega]
          refine bsq_l1 hn mono fuel ((i + j) / 2 + 1) j (by omega) hj (by omega) (fun a ha hai=>?_) hhi
          rcases Nat.lt_or_eq_of_le (Nat.le_of_lt_succ hai) with q | q
          · exact mono a _ hm q hc
          · subst q; exact hc
        · rw [decide_eq_false hc,cond_false]
          refine bsq_l1 hn mono fuel i ((i + j) / 2) (by omega) (by omega) (by omega) hlo (fun a ha hai=>?_)
          rcases Nat.lt_or_eq_of_le hai with q | q
          · exact fun q2=>hc (mono _ a ha q q2)
          · subst q; exact hc
    · have hlt' : ¬ (i:Int) < (j:Int):=by omega
      simp only [hlt',decide_false,cond_false]
      have:i = j:=by omega
      subst this
      exact ⟨i,rfl,hj,hlo,hhi⟩
def Srt {α:Type} (k:α → List Int) (l:List α):Prop:=l.Pairwise fun a b=>lexlt (k a) (k b) = true
theorem srt_one {α:Type} {k:α → List Int} {l:List α} (h:Srt k l) {a b:α} (ha:a ∈ l) (hb:b ∈ l) (e:k a = k b):a = b:=by
  obtain ⟨i,hi,rfl⟩:=List.getElem_of_mem ha
  obtain ⟨j,hj,rfl⟩:=List.getElem_of_mem hb
  rcases Nat.lt_trichotomy i j with q | q | q
  · have:=List.pairwise_iff_getElem.1 h i j hi hj q
    rw [e,bK] at this; cases this
  · subst q; rfl
  · have:=List.pairwise_iff_getElem.1 h j i hj hi q
    rw [e,bK] at this; cases this
theorem cQ {α:Type} {k:α → List Int} {l:List α} (h:Srt k l):l.Nodup:=h.imp fun {a b} q e=>by
  rw [e,bK] at q; cases q
theorem fI {a b:List Int} (h:lexlt a b = true):a ≠ b:=fun e=>by rw [e,bK] at h; cases h
theorem gp {α:Type} {k:α → List Int} {A B:List α} {x:α} (h:Srt k (A ++ B)) (hA : ∀ y ∈ A,lexlt (k y) (k x) = true) (hB : ∀ y ∈ B,lexlt (k x) (k y) = true) :
    Srt k (A ++ x :: B) ∧ ∀ y,y ∈ A ++ x :: B ↔ y = x ∨ (y ∈ A ++ B ∧ k y ≠ k x):=by
  unfold Srt at *
  rw [List.pairwise_append] at h
  refine ⟨List.pairwise_append.2 ⟨h.1,List.pairwise_cons.2 ⟨hB,h.2.1⟩,fun a ha b hb=>?_⟩,fun y=>?_⟩
  · rcases List.mem_cons.1 hb with rfl | hb
    · exact hA a ha
    · exact h.2.2 a ha b hb
  · simp only [List.mem_append,List.mem_cons]
    constructor
    · rintro (q | q | q)
      · exact .inr ⟨.inl q,fI (hA y q)⟩
      · exact .inl q
      · exact .inr ⟨.inr q,(fI (hB y q)).symm⟩
    · rintro (q | ⟨q | q,_⟩)
      · exact .inr (.inl q)
      · exact .inl q
      · exact .inr (.inr q)
theorem gq {α:Type} {k:α → List Int} {A B:List α} {y:α} (h:Srt k (A ++ y :: B)) :
    Srt k (A ++ B) ∧ ∀ z,z ∈ A ++ B ↔ z ∈ A ++ y :: B ∧ k z ≠ k y:=by
  unfold Srt at *
  rw [List.pairwise_append,List.pairwise_cons] at h
  refine ⟨List.pairwise_append.2 ⟨h.1,h.2.1.2,fun a ha b hb=>h.2.2 a ha b (List.mem_cons_of_mem _ hb)⟩,fun z=>?_⟩
  simp only [List.mem_append,List.mem_cons]
  constructor
  · rintro (q | q)
    · exact ⟨.inl q,fI (h.2.2 z q y List.mem_cons_self)⟩
    · exact ⟨.inr (.inr q),(fI (h.2.1.1 z q)).symm⟩
  · rintro ⟨q | q | q,n⟩
    · exact .inl q
    · exact absurd (by rw [q]) n
    · exact .inr q
theorem srt_rep {α:Type} {k:α → List Int} {A B:List α} {x y:α} (h:Srt k (A ++ y :: B)) (e:k y = k x) :
    Srt k (A ++ x :: B) ∧ ∀ z,z ∈ A ++ x :: B ↔ z = x ∨ (z ∈ A ++ y :: B ∧ k z ≠ k x):=by
  have hd:=gq h
  unfold Srt at h
  rw [List.pairwise_append,List.pairwise_cons] at h
  have:=gp (x:=x) hd.1 (fun z hz=>by rw [← e]; exact h.2.2 z hz y List.mem_cons_self) (fun z hz=>by rw [← e]; exact h.2.1.1 z hz)
  refine ⟨this.1,fun z=>?_⟩
  rw [this.2,hd.2,e,and_assoc,and_self]
theorem ew {α β:Type} {k:α → List Int} {l:List α} {s:β} {h:α → β → Int} {K:List Int} (hs:Srt k l) (hn:l.length ≤ 100000) (hk : ∀ a,(k a).length = K.length) (hh : ∀ a,h a s = F125 (List.zipWith cmpI (k a) K)) :
    ∃ (A B:List α) (b:Bool),bsQ l s h = some ((A.length:Int),b) ∧
      ((b = true ∧ ∃ y C,B = y :: C ∧ k y = K) ∨ (b = false ∧ (∀ y ∈ A,lexlt (k y) K = true) ∧ (∀ y ∈ B,lexlt K (k y) = true))) ∧ l = A ++ B:=by
  have hneg : ∀ a,h a s < 0 ↔ lexlt (k a) K = true:=fun a=>by rw [hh,← or_lex]; simp
  have hp:l.length - 0 < 2 ^ 99:=Nat.lt_of_lt_of_le (show l.length - 0 < 2 ^ 20 by omega) (Nat.pow_le_pow_right (by decide) (by decide))
  obtain ⟨c,h1,h2,h3,h4⟩:=bsq_l1 (s:=s) (h:=h) hn (fun a b hb hab q=>(hneg _).2 (cn (List.pairwise_iff_getElem.1 hs a b (by omega) hb hab) ((hneg _).1 q))) 99 0 l.length (Nat.zero_le _) (Nat.le_refl _) hp (fun a ha h0=>absurd h0 (Nat.not_lt_zero _)) (fun a ha h0=>absurd ha (by omega))
  have e0:(((0:Nat):Int)) = 0:=rfl
  rw [e0] at h1
  have hA : ∀ y ∈ l.take c,lexlt (k y) K = true:=by
    intro y hy
    obtain ⟨i,hi,rfl⟩:=List.getElem_of_mem hy
    rw [List.length_take] at hi
    rw [List.getElem_take]
    exact (hneg _).1 (h3 i (by omega) (by omega))
  have hl:(l.take c).length = c:=by rw [List.length_take]; omega
  refine ⟨l.take c,l.drop c,?_⟩
  rw [hl]
  unfold bsQ
  rw [h1,aD]
  by_cases hc:c < l.length
  · have hd:l.drop c = l[c] :: l.drop (c + 1):=List.drop_eq_getElem_cons hc
    rw [decide_eq_true (show ((c:Int),(c:Int)).1 < (l.length:Int) by dsimp only; omega),cond_true,bo (List.getElem?_eq_getElem hc),aD]
    by_cases hz:h l[c] s = 0
    · refine ⟨true,by rw [decide_eq_true hz],.inl ⟨rfl,_,_,hd,?_⟩,(List.take_append_drop c l).symm⟩
      rw [hh] at hz
      exact or_zero (hk _) hz
    · have hgt:lexlt K (k l[c]) = true:=by
        have h5:=h4 c hc (Nat.le_refl _)
        cases q:lexlt K (k l[c]) with
        | true=>rfl
        | false =>
          have h6:lexlt (k l[c]) K = false:=by
            cases q2:lexlt (k l[c]) K with
            | false=>rfl
            | true=>exact absurd ((hneg _).2 q2) h5
          have e:=ea (hk _) h6 q
          refine absurd ?_ hz
          rw [hh,e]
          have : ∀ m:List Int,F125 (List.zipWith cmpI m m) = 0:=by
            intro m
            induction m with
            | nil=>rfl
            | cons x m ih =>
              rw [List.zipWith_cons_cons,or_cons]
              have:cmpI x x = 0:=by unfold cmpI; simp
              rw [if_pos this]
              exact ih
          exact this K
      refine ⟨false,by rw [decide_eq_false hz],.inr ⟨rfl,hA,fun y hy=>?_⟩,(List.take_append_drop c l).symm⟩
      rw [hd] at hy
      rcases List.mem_cons.1 hy with rfl | hy
      · exact hgt
      · have hs2:Srt k (l.drop c):=List.Pairwise.sublist (List.drop_sublist _ _) hs
        rw [hd] at hs2
        exact cn hgt ((List.pairwise_cons.1 hs2).1 y hy)
  · rw [decide_eq_false (show ¬ ((c:Int),(c:Int)).1 < (l.length:Int) by dsimp only; omega),cond_false]
    have hd:l.drop c = []:=List.drop_eq_nil_of_le (by omega)
    exact ⟨false,rfl,.inr ⟨rfl,hA,fun y hy=>by rw [hd] at hy; cases hy⟩,(List.take_append_drop c l).symm⟩
theorem gE {α:Type} {k:α → List Int} : ∀ {a b:List α},Srt k a → Srt k b → (∀ x,x ∈ a ↔ x ∈ b) → a = b
  | [],[],_,_,_=>rfl
  | [],y :: b,_,_,h=>by have:=(h y).2 List.mem_cons_self; cases this
  | x :: a,[],_,_,h=>by have:=(h x).1 List.mem_cons_self; cases this
  | x :: a,y :: b,ha,hb,h=>by
    unfold Srt at ha hb
    rw [List.pairwise_cons] at ha hb
    have irr : ∀ z:α,¬ lexlt (k z) (k z) = true:=fun z q=>by rw [bK] at q; cases q
    have e:x = y:=by
      rcases List.mem_cons.1 ((h x).1 List.mem_cons_self) with hx | hx
      · exact hx
      · rcases List.mem_cons.1 ((h y).2 List.mem_cons_self) with hy | hy
        · exact hy.symm
        · exact absurd (cn (hb.1 x hx) (ha.1 y hy)) (irr y)
    subst e
    rw [gE (k:=k) ha.2 hb.2 fun z=>?_]
    have:=h z
    simp only [List.mem_cons] at this
    constructor
    · intro hz
      rcases this.1 (.inr hz) with rfl | q
      · exact absurd (ha.1 _ hz) (irr _)
      · exact q
    · intro hz
      rcases this.2 (.inr hz) with rfl | q
      · exact absurd (hb.1 _ hz) (irr _)
      · exact q
theorem gx {α:Type} {A B:List α} {x:α} {f:α → Bool} (h:f x = false):(A ++ x :: B).filter f = (A ++ B).filter f:=by
  rw [List.filter_append,List.filter_cons,h,List.filter_append]; rfl
theorem put_set {t:qk} (hs:Srt keyL t.L) (hn:t.L.length < 500) {x:qj} (hx:MayP x) :
    ∃ t':qk,F48 t x = some (t',0) ∧ Srt keyL t'.L ∧ (∀ y,y ∈ t'.L ↔ y = x ∨ (y ∈ t.L ∧ keyL y ≠ keyL x)) ∧ t'.L.length ≤ t.L.length + 1 ∧
      (∀ f:qj → Bool,(∀ z,keyL z = keyL x → f z = false) → t'.L.filter f = t.L.filter f):=by
  obtain ⟨A,B,b,e,h,rfl'⟩:=ew (s:=x) (h:=fun y0 y1=>F91 y0 y1) (K:=keyL x) hs (by omega) (fun _=>rfl) (fun a=>byKey_or a x)
  have hl:t.L.length = A.length + B.length:=by rw [rfl']; simp
  have e1:decide (t.L.length < 1099511627776) = true:=by simp; omega
  have e2:decide (500 ≤ (t.L.length:Int)) = false:=by simp; omega
  rw [rfl'] at hs
  unfold F48
  dsimp only
  rw [(may8 x).2 hx,cond_true,bQ90,e,aD,e1,cond_true]
  rcases h with ⟨rfl,y,C,rfl,hk⟩ | ⟨rfl,hA,hB⟩
  · have g:=srt_rep hs hk
    dsimp only
    rw [cond_true,rfl',get_at,aD,Int.toNat_natCast,lset_at]
    refine ⟨_,rfl,g.1,g.2,by simp,fun f hf=>?_⟩
    rw [gx (hf x rfl),gx (hf y hk)]
  · have g:=gp hs hA hB
    dsimp only
    rw [cond_false,e2,cond_false,decide_eq_true (show (0:Int) ≤ (A.length:Int) by omega),cond_true,decide_eq_true (show (A.length:Int) ≤ (t.L.length:Int) by omega),cond_true,rfl',ins_at]
    refine ⟨_,rfl,g.1,g.2,by simp; omega,fun f hf=>?_⟩
    rw [gx (hf x rfl)]
theorem put_bad {t:qk} {x:qj} (hx : ¬ MayP x):F48 t x = some (t,1):=by
  unfold F48
  have:F89 x = false:=by rw [Bool.eq_false_iff]; exact fun q=>hx ((may8 x).1 q)
  dsimp only
  rw [this,cond_false]
theorem drop_set {t:qk} (hs:Srt keyL t.L) (hn:t.L.length ≤ 500) (x:qj) :
    F74 t x = some (t,false) ∨ ∃ t':qk,F74 t x = some (t',true) ∧ Srt keyL t'.L ∧ (∀ y,y ∈ t'.L ↔ y ∈ t.L ∧ keyL y ≠ keyL x) ∧ t'.L.length ≤ t.L.length ∧
      (∀ f:qj → Bool,(∀ z,keyL z = keyL x → f z = false) → t'.L.filter f = t.L.filter f):=by
  obtain ⟨A,B,b,e,h,rfl'⟩:=ew (s:=x) (h:=fun y0 y1=>F91 y0 y1) (K:=keyL x) hs (by omega) (fun _=>rfl) (fun a=>byKey_or a x)
  have hl:t.L.length = A.length + B.length:=by rw [rfl']; simp
  have e1:decide (t.L.length < 1099511627776) = true:=by simp; omega
  rw [rfl'] at hs
  unfold F74
  rw [bQ90,e,aD]
  rcases h with ⟨rfl,y,C,rfl,hk⟩ | ⟨rfl,hA,hB⟩
  · right
    have g:=gq hs
    simp only [List.length_cons] at hl
    have hw:IntKind.i64.wrap ((A.length:Int) + 1) = (A.length:Int) + 1:=wi64 (by omega) (by omega)
    dsimp only
    rw [cond_true,hw,e1,cond_true,decide_eq_true (show (0:Int) ≤ (A.length:Int) by omega),cond_true,decide_eq_true (show (A.length:Int) ≤ (A.length:Int) + 1 by omega),cond_true,decide_eq_true (show (A.length:Int) + 1 ≤ (t.L.length:Int) by omega),cond_true,rfl',del_at]
    refine ⟨_,rfl,g.1,fun z=>?_,by simp,fun f hf=>by rw [gx (hf y hk)]⟩
    rw [g.2,hk]
  · left
    dsimp only
    rw [cond_false]
def dD (l:List qj):List qj:=l.filter (fun c=>!c.Leaked)
theorem idx_none {f:qj → Bool} {l:List qj} (h : ∀ y ∈ l,f y = false):F115 l f = -1:=by
  unfold F115
  rcases fi f l 0 with ⟨pre,x,r,e,h1,h3⟩ | ⟨h1,h2⟩
  · have:=h x (by rw [e]; simp)
    rw [this] at h1; cases h1
  · rw [h2]
theorem idx_pre {f:qj → Bool} : ∀ {pre r:List qj} {x:qj} {i:Nat},F115l1 f i (pre ++ x :: r) = .error ((i + pre.length:Nat):Int) → ∀ y ∈ pre,f y = false
  | [],r,x,i,h=>fun y hy=>by cases hy
  | z :: pre,r,x,i,h=>by
    rw [List.cons_append,F115l1] at h
    cases hz:f z with
    | true =>
      rw [hz] at h
      simp at h
      omega
    | false =>
      rw [hz] at h
      simp only [cond_false] at h
      have:=idx_pre (f:=f) (pre:=pre) (r:=r) (x:=x) (i:=i + 1) (by rw [h]; simp; omega)
      intro y hy
      rcases List.mem_cons.1 hy with rfl | hy
      · exact hz
      · exact this y hy
theorem delf_l1 {l:List qj} {f:qj → Bool} (hn:l.length ≤ 900) : ∀ (fuel i j:Nat) (s:List qj),i < j → j ≤ l.length → l.length - j < fuel → s.length = l.length → s.take i = (l.take j).filter (fun x=>!f x) → s.drop j = l.drop j →
    ∃ (i':Nat) (s':List qj),F84l1 f fuel (i:Int) (j:Int) s = some ((i':Int),(l.length:Int),s') ∧ s'.length = l.length ∧ i' < l.length ∧ s'.take i' = l.filter (fun x=>!f x)
  | 0,i,j,s,_,_,hf,_,_,_=>by omega
  | fuel + 1,i,j,s,hij,hj,hf,hs,h1,h2=>by
    unfold F84l1
    by_cases hlt:j < l.length
    · have d:decide ((j:Int) < (s.length:Int)) = true:=by simp; omega
      have hsj:j < s.length:=by omega
      have hx:s[j]? = some s[j]:=List.getElem?_eq_getElem hsj
      have hl:l[j]? = some s[j]:=by
        have e:(s.drop j)[0]? = (l.drop j)[0]?:=by rw [h2]
        rw [List.getElem?_drop,List.getElem?_drop] at e
        rw [Nat.add_zero] at e
        rw [← e]; exact hx
      have htk:(l.take (j + 1)) = l.take j ++ [s[j]]:=by
        rw [List.take_add_one,hl]; rfl
      have hd2:s.drop (j + 1) = l.drop (j + 1):=by
        rw [← List.drop_drop,h2,List.drop_drop]
      rw [d,cond_true,bo hx]
      dsimp only [aD]
      have hw:IntKind.i64.wrap ((j:Int) + 1) = ((j + 1:Nat):Int):=by rw [wi64 (by omega) (by omega)]; omega
      rw [hw]
      cases hc:f s[j] with
      | true =>
        rw [cond_true]
        exact delf_l1 hn fuel i (j + 1) s (by omega) (by omega) (by omega) hs (by rw [htk,List.filter_append,← h1]; simp [hc]) hd2
      | false =>
        rw [cond_false,bo (List.getElem?_eq_getElem (show i < s.length by omega))]
        have hwi:IntKind.i64.wrap ((i:Int) + 1) = ((i + 1:Nat):Int):=by rw [wi64 (by omega) (by omega)]; omega
        dsimp only [aD]
        rw [hwi,Int.toNat_natCast]
        refine delf_l1 hn fuel (i + 1) (j + 1) (s.set i s[j]) (by omega) (by omega) (by omega) (by simpa using hs) ?_ ?_
        · rw [htk,List.filter_append,← h1,List.take_add_one,List.getElem?_set_self (by omega),List.take_set_of_le (Nat.le_refl _)]
          simp [hc]
        · rw [List.drop_set_of_lt (by omega)]; exact hd2
    · have d:decide ((j:Int) < (s.length:Int)) = false:=by simp; omega
      rw [d,cond_false]
      have hj2:j = l.length:=by omega
      subst hj2
      exact ⟨i,s,rfl,hs,hij,by rw [h1,List.take_length]⟩
theorem delf_eq {l:List qj} (f:qj → Bool) (hn:l.length ≤ 900):F84 l f = some (l.filter (fun x=>!f x)):=by
  unfold F84
  dsimp only
  by_cases hall : ∀ y ∈ l,f y = false
  · rw [idx_none hall]
    have:l.filter (fun x=>!f x) = l:=List.filter_eq_self.2 (fun y hy=>by rw [hall y hy]; rfl)
    rw [this]
    rfl
  · rcases fi f l 0 with ⟨pre,x,r,e,h1,h3⟩ | ⟨h1,h2⟩
    · have hpre:F115 l f = (pre.length:Int):=by
        unfold F115
        rw [h3]; simp
      rw [hpre]
      have d:decide ((pre.length:Int) = -1) = false:=by simp
      rw [d,cond_false]
      have hl:l.length = pre.length + (1 + r.length):=by rw [e]; simp; omega
      have hw:IntKind.i64.wrap ((pre.length:Int) + 1) = ((pre.length + 1:Nat):Int):=by rw [wi64 (by omega) (by omega)]; omega
      rw [hw]
      have hnf : ∀ y ∈ pre,f y = false:=(by rw [e] at h3; exact idx_pre h3)
      obtain ⟨i',s',h4,h5,h6,h7⟩:=delf_l1 (l:=l) (f:=f) hn 1000 pre.length (pre.length + 1) l (by omega) (by omega) (by omega) rfl
        (by rw [e,List.take_left,show pre ++ x :: r = (pre ++ [x]) ++ r by simp,List.take_left' (by simp),List.filter_append]
            rw [List.filter_eq_self.2 (fun y hy=>by rw [hnf y hy]; rfl)]; simp [h1]) rfl
      rw [h4]
      dsimp only [aD]
      rw [Int.toNat_natCast]
      have d1:decide ((0:Int) ≤ (i':Int)) = true:=by simp
      have d2:decide ((i':Int) ≤ (s'.length:Int)) = true:=by simp; omega
      have d3:decide ((i':Int) < (s'.length:Int)) = true:=by simp; omega
      have tl:(s'.take i').length = i':=by rw [List.length_take]; omega
      rw [d1,cond_true,d2,cond_true,d3,cond_true]
      rw [List.take_left' tl,h7]
      have d4:decide ((i':Int) ≤ ((List.filter (fun x=>!f x) l ++ List.replicate (s'.length - i') (⟨⟨0,0⟩,0,0,0,0,0,false,0,[]⟩ : qj)).length:Int)) = true:=by
        have:(List.filter (fun x=>!f x) l).length = i':=by rw [← h7,tl]
        rw [List.length_append,this]; simp; omega
      rw [d4,cond_true]
    · exact absurd h1 hall
theorem dz {t:qk} (f:qj → Bool) (h:t.L.length ≤ 900):F42 t f = some ⟨t.L.filter (fun x=>!f x)⟩:=by
  unfold F42
  rw [delf_eq f h]
  have d:decide (t.L.length < 1099511627776) = true:=by simp; omega
  rw [d]; rfl
def ik (x:zw):List Int:=[x.At,x.P.A,x.P.N]
def pk (c:qj):List Int:=[c.P.A,c.P.N]
theorem ik_inj {x y:zw} (h:ik x = ik y):x = y:=by
  obtain ⟨a,⟨b,c⟩⟩:=x
  obtain ⟨a',⟨b',c'⟩⟩:=y
  unfold ik at h
  simp only [List.cons.injEq,and_true] at h
  obtain ⟨h1,h2,h3⟩:=h
  subst h1 h2 h3
  rfl
theorem pk_eq {c:qj} {p:zy}:pk c = [p.A,p.N] ↔ c.P = p:=by
  unfold pk
  obtain ⟨a,b⟩:=p
  cases h:c.P with
  | mk a' b'=>simp
theorem pk_two {c d:qj}:pk c = pk d ↔ c.P = d.P:=pk_eq
theorem byPlace_or (a b:zw):F105 a b = F125 (List.zipWith cmpI (ik a) (ik b)):=by
  unfold F105
  simp only [cmp49,cmp50]
  rfl
theorem mark1_or (a:qj) (p:zy):F144 a p = F125 (List.zipWith cmpI (pk a) [p.A,p.N]):=by
  unfold F144
  simp only [cmp49,cmp50]
  rfl
theorem todo_set (n:TNet) (hs:Srt ik n.Work) (hn:n.Work.length ≤ 90000) (at1:Int) (p:zy) :
    ∃ w,F68 n at1 p = some ⟨n.T,n.Sel,n.L,w,n.Over⟩ ∧ Srt ik w ∧ (∀ x,x ∈ w ↔ x = ⟨at1,p⟩ ∨ x ∈ n.Work) ∧ w.length ≤ n.Work.length + 1:=by
  obtain ⟨A,B,b,e,h,hl⟩:=ew (s:=(⟨at1,p⟩ : zw)) (h:=fun y0 y1=>F105 y0 y1) (K:=ik ⟨at1,p⟩) hs (by omega) (fun _=>rfl) (fun a=>byPlace_or a _)
  have hlen:n.Work.length = A.length + B.length:=by rw [hl]; simp
  unfold F68
  rw [bQ104,e,aD]
  rcases h with ⟨rfl,y,C,rfl,hk⟩ | ⟨rfl,hA,hB⟩
  · refine ⟨n.Work,rfl,hs,fun x=>⟨.inr,?_⟩,by omega⟩
    rintro (rfl | q)
    · rw [hl,← ik_inj hk]; simp
    · exact q
  · rw [hl] at hs
    have g:=gp hs hA hB
    dsimp only
    rw [cond_false,decide_eq_true (show (0:Int) ≤ (A.length:Int) by omega),cond_true,decide_eq_true (show (A.length:Int) ≤ (n.Work.length:Int) by omega),cond_true,decide_eq_true (show n.Work.length < 1099511627776 by omega),cond_true,hl,ins_at]
    refine ⟨_,rfl,g.1,fun x=>?_,by simp; omega⟩
    rw [g.2]
    constructor
    · rintro (q | q)
      · exact .inl q
      · exact .inr q.1
    · rintro (q | q)
      · exact .inl q
      · by_cases hx:x = ⟨at1,p⟩
        · exact .inl hx
        · exact .inr ⟨q,fun q2=>hx (ik_inj q2)⟩
theorem mark_set {l:List qj} (hs:Srt pk l) (hn:l.length ≤ 90000) (p:zy) (c:qj) (is:Bool) (hc:is = true → c.P = p) :
    ∃ m,F108 l p c is = some m ∧ Srt pk m ∧ (∀ y,y ∈ m ↔ (is = true ∧ y = c) ∨ (y ∈ l ∧ y.P ≠ p)) ∧ m.length ≤ l.length + 1:=by
  obtain ⟨A,B,b,e,h,hl⟩:=ew (s:=p) (h:=fun y0 y1=>F144 y0 y1) (K:=[p.A,p.N]) hs (by omega) (fun _=>rfl) (fun a=>mark1_or a p)
  have hlen:l.length = A.length + B.length:=by rw [hl]; simp
  unfold F108
  rw [bQ143,e,aD,decide_eq_true (show l.length < 1099511627776 by omega),cond_true]
  rcases h with ⟨rfl,y,C,rfl,hk⟩ | ⟨rfl,hA,hB⟩
  · dsimp only
    rw [hl] at hs
    rw [cond_true]
    cases is with
    | true =>
      have g:=srt_rep (x:=c) hs (by rw [hk]; exact (pk_eq.2 (hc rfl)).symm)
      rw [cond_true,hl,get_at,aD,Int.toNat_natCast,lset_at]
      refine ⟨_,rfl,g.1,fun z=>?_,by simp⟩
      rw [g.2,ne_eq,ne_eq,pk_two,hc rfl]
      simp
    | false =>
      have g:=gq hs
      simp only [List.length_cons] at hlen
      have hw:IntKind.i64.wrap ((A.length:Int) + 1) = (A.length:Int) + 1:=wi64 (by omega) (by omega)
      rw [cond_false,hw,decide_eq_true (show (0:Int) ≤ (A.length:Int) by omega),cond_true,decide_eq_true (show (A.length:Int) ≤ (A.length:Int) + 1 by omega),cond_true,decide_eq_true (show (A.length:Int) + 1 ≤ (l.length:Int) by omega),cond_true,hl,del_at]
      refine ⟨_,rfl,g.1,fun z=>?_,by simp; omega⟩
      rw [g.2,ne_eq,ne_eq,pk_two,pk_eq.1 hk]
      simp
  · dsimp only
    rw [cond_false]
    have hno : ∀ z ∈ l,z.P ≠ p:=fun z hz q=>by
      rw [hl] at hz
      have:=pk_eq.2 q
      rcases List.mem_append.1 hz with hz | hz
      · exact fI (hA z hz) this
      · exact fI (hB z hz) this.symm
    cases is with
    | true =>
      rw [hl] at hs
      have e2:=pk_eq.2 (hc rfl)
      have g:=gp (x:=c) hs (by rw [e2]; exact hA) (by rw [e2]; exact hB)
      rw [cond_true,decide_eq_true (show (0:Int) ≤ (A.length:Int) by omega),cond_true,decide_eq_true (show (A.length:Int) ≤ (l.length:Int) by omega),cond_true,hl,ins_at]
      refine ⟨_,rfl,g.1,fun z=>?_,by simp; omega⟩
      rw [g.2,ne_eq,ne_eq,pk_two,hc rfl]
      simp
    | false =>
      refine ⟨l,rfl,hs,fun z=>⟨fun q=>.inr ⟨q,hno z q⟩,?_⟩,by omega⟩
      rintro (⟨q,_⟩ | q)
      · cases q
      · exact q.1
theorem cpy_eq {α:Type} {L X:List α} (h:L.length = X.length):gZ L X = X:=by
  unfold gZ
  rw [h,List.take_length,← h,List.drop_length,List.append_nil]
theorem own_eq {n:TNet} (h1:1 ≤ n.T.length ∧ n.T.length ≤ 6) (h2:n.Sel.length = n.T.length) (h3:n.L.length ≤ 1000) (h4:n.Work.length ≤ 90000):F41 n = some n:=by
  unfold F41
  rw [cpy_eq (by simp),cpy_eq (by simp)]
  simp only [List.length_replicate]
  rw [decide_eq_true (show (0:Int) ≤ (n.T.length:Int) by omega),decide_eq_true (show (n.T.length:Int) < 1099511627776 by omega),decide_eq_true (show (0:Int) ≤ (n.Sel.length:Int) by omega),decide_eq_true (show (n.Sel.length:Int) < 1099511627776 by omega),decide_eq_true (show n.L.length < 1099511627776 by omega),decide_eq_true (show n.Work.length < 1099511627776 by omega),decide_eq_true (show (0:Int) < (n.T.length:Int) by omega),decide_eq_true (show (0:Int) < (n.Sel.length:Int) by omega)]
  rfl
structure TK (t:qk):Prop where
  may : ∀ x ∈ t.L,MayP x
  srt:Srt keyL t.L
  len:t.L.length ≤ 500
theorem TK.fil {t:qk} (h:TK t) (f:qj → Bool):TK ⟨t.L.filter f⟩ :=
  ⟨fun x hx=>h.may x (List.mem_filter.1 hx).1,h.srt.sublist List.filter_sublist,Nat.le_trans (List.length_filter_le _ _) h.len⟩
theorem TK.hop {t:qk} (h:TK t) : ∀ c ∈ t.L,1 ≤ c.Hops.length:=fun c hc=>by have:=(h.may c hc).hops; omega
theorem countsK {t:qk} (h:TK t) : ∃ liv all,Counts t liv all:=by
  obtain ⟨liv,hl⟩:=fZ h.hop t.L fun c hc=>by have:=(h.may c hc).hops; omega
  have hs:=hl.srt (List.Pairwise.imp (fun {a b} (q:Kl a b)=>q.ple) h.srt)
  have hlen:=hl.len
  have hle:=h.len
  obtain ⟨all,e,k1,k2⟩:=all_l1 liv [] [] ⟨fun e h=>(by cases h),fun d h=>(by cases h),.nil⟩ (by simpa using hs) (by simp) (by simp; omega)
  refine ⟨liv,all,hl,?_,by simpa using k1⟩
  unfold allO
  rw [hl.eq]
  exact e
def gm (l:List qj):List qj:=l.filter fun c=>decide (c.Proto = 0) && !c.Leaked
def rsv (g:Int):Option qj → List qj → Option qj
  | a,[]=>a
  | a,x :: l=>rsv g (if F167 x.P g then (match a with
    | none=>some x
    | some y=>if y.P.N < x.P.N then some x else some y) else a) l
theorem rsv_l1 {t:qk} {h:THop} : ∀ (l pre:List qj) (at6:Int) (a:Option qj),t.L = pre ++ l → ((at6 = -1 ∧ a = none) ∨ ∃ j:Nat,at6 = j ∧ ∃ x,t.L[j]? = some x ∧ a = some x) →
    ∃ r,F148l1 t h at6 pre.length l = some r ∧ ((r = -1 ∧ rsv h.Gate a (gm l) = none) ∨ ∃ j:Nat,r = j ∧ ∃ x,t.L[j]? = some x ∧ rsv h.Gate a (gm l) = some x)
  | [],pre,at6,a,_,ha=>⟨at6,by rw [F148l1],ha⟩
  | x :: l,pre,at6,a,hl,ha=>by
    have ih:=fun at7 b=>rsv_l1 (t:=t) (h:=h) l (pre ++ [x]) at7 b (by rw [hl]; simp)
    rw [show (pre ++ [x]).length = pre.length + 1 by simp] at ih
    have hx:t.L[pre.length]? = some x:=by rw [hl]; simp
    rw [F148l1]
    unfold gm
    rw [List.filter_cons]
    by_cases h0:x.Proto = 0
    · cases hk:x.Leaked with
      | true =>
        rw [decide_eq_true h0,cond_true,cond_true]
        exact ih _ _ ha
      | false =>
        rw [decide_eq_true h0,cond_true,cond_false]
        simp only [Bool.not_false,Bool.and_self,if_true,rsv]
        cases hh:F167 x.P h.Gate with
        | false =>
          rw [cond_false]
          simp only [Bool.false_eq_true,if_false]
          exact ih _ _ ha
        | true =>
          rw [cond_true]
          simp only [if_true]
          rcases ha with ⟨rfl,rfl⟩ | ⟨j,rfl,y,hy,rfl⟩
          · exact ih _ _ (.inr ⟨_,rfl,x,hx,rfl⟩)
          · rw [decide_eq_false (show ¬ (j:Int) < 0 by omega),cond_false,bo hy,aD]
            dsimp only
            by_cases hn:y.P.N < x.P.N
            · rw [decide_eq_true hn,cond_true,if_pos hn]
              exact ih _ _ (.inr ⟨_,rfl,x,hx,rfl⟩)
            · rw [decide_eq_false hn,cond_false,if_neg hn]
              exact ih _ _ (.inr ⟨_,rfl,y,hy,rfl⟩)
    · rw [decide_eq_false h0,cond_false]
      exact ih _ _ ha
def rs (l:List qj) (h:THop):THop × Bool:=if h.Gate = 0 then (h,true) else match rsv h.Gate none l with
  | none=>(⟨0,0⟩,false)
  | some c=>(⟨(c.Hops.headD ⟨0,0⟩).Iface,h.Gate⟩,true)
theorem gJ {t:qk} (hT : ∀ c ∈ t.L,1 ≤ c.Hops.length) (h:THop):F148 t h = some (rs (gm t.L) h):=by
  unfold F148 rs
  by_cases h0:h.Gate = 0
  · rw [decide_eq_true h0,cond_true,if_pos h0]
  · rw [decide_eq_false h0,cond_false,if_neg h0]
    obtain ⟨r,e,hr⟩:=rsv_l1 (t:=t) (h:=h) t.L [] (-1) none rfl (.inl ⟨rfl,rfl⟩)
    have e:F148l1 t h (-1) 0 t.L = some r:=e
    rw [e,aD]
    rcases hr with ⟨rfl,h2⟩ | ⟨j,rfl,x,hx,h2⟩
    · rw [h2]
      rfl
    · rw [h2,decide_eq_false (show ¬ (j:Int) < 0 by omega),cond_false,bo hx,aD]
      have hh:=hT x (List.mem_of_getElem? hx)
      cases hs:x.Hops with
      | nil=>rw [hs] at hh; simp at hh
      | cons y r =>
        have:getI (y :: r) 0 = some y:=bo (i:=0) rfl
        rw [this,aD]
        dsimp only
        rw [hs]
        rfl
def Liv (t:qk) (c e:qj):Prop:=F117 t c = some (e,true)
theorem lives_l1c {t t':qk} (hT : ∀ c ∈ t.L,1 ≤ c.Hops.length) (hT' : ∀ c ∈ t'.L,1 ≤ c.Hops.length) (hd:gm t.L = gm t'.L) : ∀ (l out:List THop),F117l1 t out l = F117l1 t' out l
  | [],out=>by rw [F117l1,F117l1]
  | x :: l,out=>by
    rw [F117l1,F117l1,gJ hT,gJ hT',hd]
    simp only [lives_l1c hT hT' hd l]
theorem gw {t t':qk} (hT : ∀ c ∈ t.L,1 ≤ c.Hops.length) (hT' : ∀ c ∈ t'.L,1 ≤ c.Hops.length) (hd:gm t.L = gm t'.L) (c e:qj):Liv t c e ↔ Liv t' c e:=by
  unfold Liv F117
  rw [lives_l1c hT hT' hd]
theorem d8 {t:qk} {c e:qj} (h:c.Proto ≠ 1 ∨ c.Leaked = true):Liv t c e ↔ e = c:=by
  unfold Liv F117
  rcases h with h | h
  · rw [decide_eq_false h,cond_false]
    simp [eq_comm]
  · rw [h,cond_true]
    cases decide (c.Proto = 1) <;> simp [eq_comm]
theorem fH {t:qk} : ∀ (l out:List THop) (o:List THop),F117l1 t out l = some o → o.length ≤ out.length + l.length
  | [],out,o,h=>by
    rw [F117l1] at h
    injection h with h
    subst h
    simp
  | x :: l,out,o,h=>by
    rw [F117l1] at h
    rw [List.length_cons]
    cases hr:F148 t x with
    | none=>rw [hr] at h; cases h
    | some r =>
      rw [hr,aD] at h
      cases hb:r.2 with
      | true =>
        rw [hb,cond_true] at h
        cases hd:decide (out.length < 1099511627776) with
        | true =>
          rw [hd,cond_true] at h
          have:=fH l _ o h
          simp at this
          omega
        | false=>rw [hd] at h; cases h
      | false =>
        rw [hb,cond_false] at h
        have:=fH l _ o h
        omega
theorem liv_same {t:qk} {c e:qj} (h:Liv t c e) (hc:1 ≤ c.Hops.length) : ∃ hs:List THop,e = ⟨c.P,c.Proto,c.Inst,c.Dist,c.Metric,c.Tag,c.Leaked,c.From,hs⟩ ∧ 1 ≤ hs.length ∧ hs.length ≤ c.Hops.length:=by
  by_cases h0:c.Proto ≠ 1 ∨ c.Leaked = true
  · rw [d8 h0] at h
    subst h
    exact ⟨e.Hops,rfl,hc,Nat.le_refl _⟩
  · have h1:c.Proto = 1:=Decidable.byContradiction fun q=>h0 (.inl q)
    have h2:c.Leaked = false:=by rw [Bool.eq_false_iff]; exact fun q=>h0 (.inr q)
    unfold Liv F117 at h
    rw [decide_eq_true h1,cond_true,h2,cond_false] at h
    cases hl:F117l1 t [] c.Hops with
    | none=>rw [hl] at h; cases h
    | some o =>
      have hn:=fH _ _ _ hl
      rw [hl,aD] at h
      cases hz:decide ((o.length:Int) = 0) with
      | true=>rw [hz,cond_true] at h; cases h
      | false =>
        rw [hz,cond_false] at h
        injection h with h
        injection h with h _
        have hz:=of_decide_eq_false hz
        refine ⟨o,by rw [← h,h2],by omega,by simpa using hn⟩
theorem d9 {t:qk} {c e:qj} (h:Liv t c e) (hc:1 ≤ c.Hops.length):e.P = c.P ∧ e.Dist = c.Dist ∧ e.Leaked = c.Leaked ∧ rankL e = rankL c ∧ keyL e = keyL c:=by
  obtain ⟨hs,rfl,_⟩:=liv_same h hc
  exact ⟨rfl,rfl,rfl,rfl,rfl⟩
theorem liv_fun {t:qk} {c e e':qj} (h:Liv t c e) (h':Liv t c e'):e = e':=by
  unfold Liv at h h'
  rw [h] at h'
  injection h' with h'
  injection h' with h'
def bst (t:qk) (p:zy):Option qj:=match F107 t p with
  | some (c,true)=>some c
  | _=>none
theorem bst_eq {t:qk} (h:TK t) (p:zy):(∃ c,bst t p = some c ∧ F107 t p = some (c,true)) ∨ (bst t p = none ∧ F107 t p = some (zC,false)):=by
  obtain ⟨liv,all,hc⟩:=countsK h
  rcases eA hc.eq p with ⟨e,_,_,h1⟩ | ⟨_,h1⟩
  · exact .inl ⟨e,by unfold bst; rw [h1],h1⟩
  · exact .inr ⟨by unfold bst; rw [h1],h1⟩
theorem bR {t:qk} (h:TK t) (p:zy) (e:qj):bst t p = some e ↔ e.P = p ∧ (∃ c ∈ t.L,Liv t c e) ∧ ∀ d ∈ t.L,∀ y,Liv t d y → d.P = p → F87 y e = false:=by
  obtain ⟨liv,all,hc⟩:=countsK h
  have key : ∀ e' ∈ all,e'.P = p → (∃ c ∈ t.L,Liv t c e') ∧ ∀ d ∈ t.L,∀ y,Liv t d y → d.P = p → F87 y e' = false:=by
    intro e' he hp
    obtain ⟨c,h1,h2,_⟩:=hc.lv.mem e' (hc.al.mem e' he)
    refine ⟨⟨c,h1,h2⟩,fun d hd y hy hdp=>?_⟩
    obtain ⟨e2,g1,g2,g3⟩:=hc.al.cov y (hc.lv.cov d hd y hy)
    have hyP:=(d9 hy (h.hop d hd)).1
    rw [all_one hc.al.srt he g1 (by rw [hp,g2,hyP,hdp])]
    exact g3
  constructor
  · intro hb
    rcases eA hc.eq p with ⟨x,hx,hxp,h1⟩ | ⟨_,h1⟩
    · have:bst t p = some x:=by unfold bst; rw [h1]
      rw [this] at hb
      injection hb with hb
      subst hb
      exact ⟨hxp,key x hx hxp⟩
    · have:bst t p = none:=by unfold bst; rw [h1]
      rw [this] at hb
      cases hb
  · rintro ⟨hp,⟨c,hcm,hl⟩,hbest⟩
    have hcP:=d9 hl (h.hop c hcm)
    obtain ⟨e',g1,g2,g3⟩:=hc.al.cov e (hc.lv.cov c hcm e hl)
    rw [hp] at g2
    obtain ⟨⟨c',hc',hl'⟩,_⟩:=key e' g1 g2
    have hcP':=d9 hl' (h.hop c' hc')
    have h2:=hbest c' hc' e' hl' (by rw [← hcP'.1,g2])
    rw [dR] at h2 g3
    have er:rankL e = rankL e':=ea rfl g3 h2
    have ek:keyL c = keyL c':=by
      rw [← hcP.2.2.2.2,← hcP'.2.2.2.2]
      unfold rankL at er
      simp only [List.cons.injEq,and_true] at er
      obtain ⟨_,e2,e3,_,e5,e6⟩:=er
      unfold keyL
      rw [hp,g2,e2,e3,e5,e6]
    have:=srt_one h.srt hcm hc' ek
    subst this
    have:=liv_fun hl hl'
    subst this
    rcases eA hc.eq p with ⟨x,hx,hxp,h1⟩ | ⟨hno,h1⟩
    · rw [all_one hc.al.srt g1 hx (by rw [hp,hxp])]
      unfold bst; rw [h1]
    · exact absurd hp (hno e g1)
theorem fS {t t':qk} (h:TK t) (h':TK t') (p:zy) (hm : ∀ c,c.P = p → (c ∈ t.L ↔ c ∈ t'.L)) (hl : ∀ c ∈ t.L,c.P = p → ∀ e,Liv t c e ↔ Liv t' c e):bst t p = bst t' p:=by
  have key : ∀ e,bst t p = some e ↔ bst t' p = some e:=by
    intro e
    rw [bR h,bR h']
    refine and_congr_right fun hp=>and_congr ?_ ?_
    · constructor
      · rintro ⟨c,hc,hlc⟩
        have hcp:c.P = p:=by rw [← (d9 hlc (h.hop c hc)).1,hp]
        exact ⟨c,(hm c hcp).1 hc,(hl c hc hcp e).1 hlc⟩
      · rintro ⟨c,hc,hlc⟩
        have hcp:c.P = p:=by rw [← (d9 hlc (h'.hop c hc)).1,hp]
        have:=(hm c hcp).2 hc
        exact ⟨c,this,(hl c this hcp e).2 hlc⟩
    · constructor
      · intro g d hd y hy hdp
        have:=(hm d hdp).2 hd
        exact g d this y ((hl d this hdp y).2 hy) hdp
      · intro g d hd y hy hdp
        exact g d ((hm d hdp).1 hd) y ((hl d hd hdp y).1 hy) hdp
  cases hb:bst t p with
  | some e=>exact ((key e).1 hb).symm
  | none =>
    cases hb':bst t' p with
    | none=>rfl
    | some e=>rw [(key e).2 hb'] at hb; cases hb
def nt_ (t:qk):qk:=⟨dD t.L⟩
def nb (t:qk) (p:zy):Option qj:=bst (nt_ t) p
def op (t:qk) (p:zy):Option qj:=match bst t p with
  | some c=>if c.Leaked = true then none else some c
  | none=>none
theorem mem_nt {t:qk} {c:qj}:c ∈ (nt_ t).L ↔ c ∈ t.L ∧ c.Leaked = false:=by
  unfold nt_ dD
  rw [List.mem_filter]
  cases c.Leaked <;> simp
theorem gY (t:qk):gm (nt_ t).L = gm t.L:=by
  unfold gm nt_ dD
  rw [List.filter_filter]
  refine List.filter_congr fun c _=>?_
  cases c.Leaked <;> simp
theorem TK.nt {t:qk} (h:TK t):TK (nt_ t):=h.fil _
theorem op_some {t:qk} {p:zy} {c:qj}:op t p = some c ↔ bst t p = some c ∧ c.Leaked = false:=by
  unfold op
  cases hb:bst t p with
  | none=>simp
  | some e =>
    dsimp only
    cases hk:e.Leaked with
    | true =>
      simp only [if_true]
      constructor
      · intro q; cases q
      · rintro ⟨q,q2⟩
        injection q with q
        subst q
        rw [hk] at q2; cases q2
    | false =>
      simp only [Bool.false_eq_true,if_false]
      constructor
      · intro q
        injection q with q
        subst q
        exact ⟨rfl,hk⟩
      · exact fun q=>q.1
theorem nb_native {t:qk} (h:TK t) {p:zy} {c:qj} (hb:nb t p = some c):c.Leaked = false ∧ c.P = p:=by
  obtain ⟨h1,⟨d,hd,hl⟩,_⟩:=(bR h.nt p c).1 hb
  exact ⟨by rw [(d9 hl (h.nt.hop d hd)).2.2.1]; exact (mem_nt.1 hd).2,h1⟩
theorem eG {t:qk} (h:TK t) (p:zy) (c:qj):op t p = some c ↔ nb t p = some c ∧ ∀ y ∈ t.L,y.Leaked = true → y.P = p → c.Dist ≤ y.Dist:=by
  have hL : ∀ d e,Liv (nt_ t) d e ↔ Liv t d e:=gw h.nt.hop h.hop (gY t)
  have bl : ∀ y c:qj,y.Leaked = true → c.Leaked = false → (F87 y c = false ↔ c.Dist ≤ y.Dist):=by
    intro y c hy hc
    rw [dR]
    unfold rankL lkN
    rw [hy,hc,lexlt]
    by_cases h1:y.Dist < c.Dist
    · rw [if_pos h1]
      constructor
      · intro q; cases q
      · intro q; omega
    · rw [if_neg h1]
      constructor
      · intro _; omega
      · intro _
        by_cases h2:c.Dist < y.Dist
        · rw [if_pos h2]
        · rw [if_neg h2,lexlt]
          simp
  rw [op_some]
  unfold nb
  rw [bR h,bR h.nt]
  constructor
  · rintro ⟨⟨hp,⟨d,hd,hl⟩,hb⟩,hk⟩
    have hdl:=(d9 hl (h.hop d hd)).2.2.1
    refine ⟨⟨hp,⟨d,mem_nt.2 ⟨hd,by rw [← hdl,hk]⟩,(hL d c).2 hl⟩,fun x hx y hy hxp=>hb x (mem_nt.1 hx).1 y ((hL x y).1 hy) hxp⟩,fun y hy hyl hyp=>?_⟩
    exact (bl y c hyl hk).1 (hb y hy y ((d8 (.inr hyl)).2 rfl) hyp)
  · rintro ⟨⟨hp,⟨d,hd,hl⟩,hb⟩,hk⟩
    have hd:=mem_nt.1 hd
    have hl:=(hL d c).1 hl
    have hcl:c.Leaked = false:=by rw [(d9 hl (h.hop d hd.1)).2.2.1]; exact hd.2
    refine ⟨⟨hp,⟨d,hd.1,hl⟩,fun x hx y hy hxp=>?_⟩,hcl⟩
    cases hxl:x.Leaked with
    | false=>exact hb x (mem_nt.2 ⟨hx,hxl⟩) y ((hL x y).2 hy) hxp
    | true =>
      have:=(d8 (.inr hxl)).1 hy
      subst this
      exact (bl y c hxl hcl).2 (hk y hx hxl hxp)
def tel (x:zz) (c:qj):Option qj:=if (F88 x.Map ⟨c.P,c.Proto,min_ c.Metric 16777215,c.Tag⟩).2.1 = true then some ⟨c.P,c.Proto,c.Inst,c.Dist,c.Metric,c.Tag,true,x.From,c.Hops⟩ else none
def told (x:zz) (t:qk) (p:zy):Option qj:=match op t p with
  | some c=>tel x c
  | none=>none
theorem told_op {x:zz} {t:qk} {p:zy} {y:qj}:told x t p = some y ↔ ∃ c,op t p = some c ∧ tel x c = some y:=by
  unfold told
  cases op t p <;> simp
theorem tel_eq {x:zz} {c y:qj} (h:tel x c = some y):y = ⟨c.P,c.Proto,c.Inst,c.Dist,c.Metric,c.Tag,true,x.From,c.Hops⟩:=by
  unfold tel at h
  split at h
  · injection h with h
    exact h.symm
  · cases h
theorem bB {x:zz} {t:qk} (h:TK t) {p:zy} {y:qj} (ht:told x t p = some y):y.Leaked = true ∧ y.From = x.From ∧ y.P = p ∧ ∃ c,op t p = some c ∧ nb t p = some c ∧ y.Dist = c.Dist ∧ y = ⟨c.P,c.Proto,c.Inst,c.Dist,c.Metric,c.Tag,true,x.From,c.Hops⟩:=by
  obtain ⟨c,h1,h2⟩:=told_op.1 ht
  have h2:=tel_eq h2
  have h3:=((eG h p c).1 h1).1
  have h4:=(nb_native h h3).2
  exact ⟨by rw [h2],by rw [h2],by rw [h2]; exact h4,c,h1,h3,by rw [h2],h2⟩
theorem eW {x:zz} {t:qk} (h:TK t) {p:zy} {y:qj} (ht:told x t p = some y) (hx:0 ≤ x.From ∧ x.From ≤ 31):MayP y:=by
  obtain ⟨_,_,_,c,h1,h2,_,rfl⟩:=bB h ht
  obtain ⟨_,⟨d,hd,hl⟩,_⟩:=(bR h.nt p c).1 h2
  obtain ⟨hs,rfl,g1,g2⟩:=liv_same hl (h.nt.hop d hd)
  have m:=h.nt.may d hd
  have:=m.hops
  exact ⟨m.p,m.proto,m.inst,m.metric,hx,by dsimp only; omega,.inl rfl,m.d0,m.d1⟩
theorem gA {x:zz} {t:qk} (h:TK t) {p:zy} {c:qj} {is:Bool} (hb:F107 t p = some (c,is)) : ∃ d b,F47 x c = some (d,b) ∧ told x t p = if b = true ∧ is = true then some d else none:=by
  unfold F47
  rcases he:F88 x.Map ⟨c.P,c.Proto,min_ c.Metric 16777215,c.Tag⟩ with ⟨a,ok,f⟩
  dsimp only
  unfold told op
  rcases bst_eq h p with ⟨e,h1,h2⟩ | ⟨h1,h2⟩
  · rw [h2] at hb
    injection hb with hb
    injection hb with hb1 hb2
    subst hb1 hb2
    rw [h1]
    dsimp only
    cases hk:e.Leaked with
    | true=>exact ⟨_,_,rfl,by simp⟩
    | false =>
      have hte:tel x e = if ok = true then some ⟨e.P,e.Proto,e.Inst,e.Dist,e.Metric,e.Tag,true,x.From,e.Hops⟩ else none:=by unfold tel; rw [he]
      cases ok with
      | true=>exact ⟨_,_,rfl,by simp [hte]⟩
      | false=>exact ⟨_,_,rfl,by simp [hte]⟩
  · rw [h2] at hb
    injection hb with hb
    injection hb with hb1 hb2
    subst hb1 hb2
    rw [h1]
    cases ok <;> exact ⟨_,_,rfl,by simp⟩
theorem eqH_l1 {b:List THop} : ∀ (rest pre suf:List THop),b = pre ++ suf → rest.length = suf.length → (F97l1 b pre.length rest = .ok () ∧ rest = suf) ∨ (F97l1 b pre.length rest = .error false ∧ rest ≠ suf)
  | [],pre,suf,_,hl=>.inl ⟨rfl,(List.length_eq_zero_iff.1 hl.symm).symm⟩
  | x :: rest,pre,[],_,hl=>by simp at hl
  | x :: rest,pre,y :: suf,he,hl=>by
    rw [F97l1]
    have hx:b.getD pre.length default = y:=by rw [he]; simp
    rw [hx]
    by_cases hxy:x = y
    · subst hxy
      simp only [decide_true,Bool.and_true,cond_true]
      rw [show pre.length + 1 = (pre ++ [x]).length by simp]
      rcases eqH_l1 (b:=b) rest (pre ++ [x]) suf (by rw [he]; simp) (by simpa using hl) with ⟨h1,h2⟩ | ⟨h1,h2⟩
      · exact .inl ⟨h1,by rw [h2]⟩
      · exact .inr ⟨h1,by simpa using h2⟩
    · right
      have:(decide (x.Iface = y.Iface) && (decide (x.Gate = y.Gate) && true)) = false:=by
        rw [Bool.eq_false_iff]
        intro q
        simp at q
        obtain ⟨a,b⟩:=x
        obtain ⟨a',b'⟩:=y
        simp at q hxy
        exact hxy q.1 q.2
      rw [this]
      exact ⟨rfl,by simp [hxy]⟩
theorem eqH (a b:List THop):F97 a b = decide (a = b):=by
  unfold F97
  by_cases hl:a.length = b.length
  · rw [decide_eq_true (show (a.length:Int) = (b.length:Int) by omega),Bool.true_and]
    rcases eqH_l1 (b:=b) a [] b rfl hl with ⟨h1,h2⟩ | ⟨h1,h2⟩
    · rw [show F97l1 b 0 a = .ok () from h1,decide_eq_true h2]
    · rw [show F97l1 b 0 a = .error false from h1,decide_eq_false h2]
  · rw [decide_eq_false (show ¬ (a.length:Int) = (b.length:Int) by omega),Bool.false_and]
    exact (decide_eq_false (fun q=>hl (by rw [q]))).symm
theorem alike_iff (a b:qj):F57 a b = true ↔ a = b:=by
  unfold F57
  rw [eqH]
  obtain ⟨⟨a0,a1⟩,a2,a3,a4,a5,a6,a7,a8,a9⟩:=a
  obtain ⟨⟨b0,b1⟩,b2,b3,b4,b5,b6,b7,b8,b9⟩:=b
  simp
  intros
  exact and_comm
theorem eq56_l1 {b:List qj} : ∀ (rest pre suf:List qj),b = pre ++ suf → rest.length = suf.length → (F56l1 b (fun y0 y1=>F57 y0 y1) pre.length rest = .ok () ∧ rest = suf) ∨ (F56l1 b (fun y0 y1=>F57 y0 y1) pre.length rest = .error false ∧ rest ≠ suf)
  | [],pre,suf,_,hl=>.inl ⟨rfl,(List.length_eq_zero_iff.1 hl.symm).symm⟩
  | x :: rest,pre,[],_,hl=>by simp at hl
  | x :: rest,pre,y :: suf,he,hl=>by
    rw [F56l1]
    have hx:b.getD pre.length default = y:=by rw [he]; simp
    rw [hx]
    have ey:(⟨y.P,y.Proto,y.Inst,y.Dist,y.Metric,y.Tag,y.Leaked,y.From,y.Hops⟩ : qj) = y:=rfl
    rw [ey]
    cases hal:F57 x y with
    | true =>
      have:=(alike_iff x y).1 hal
      subst this
      rw [cond_true,show pre.length + 1 = (pre ++ [x]).length by simp]
      rcases eq56_l1 (b:=b) rest (pre ++ [x]) suf (by rw [he]; simp) (by simpa using hl) with ⟨h1,h2⟩ | ⟨h1,h2⟩
      · exact .inl ⟨h1,by rw [h2]⟩
      · exact .inr ⟨h1,by simpa using h2⟩
    | false =>
      right
      have hne:x ≠ y:=fun q=>by rw [(alike_iff x y).2 q] at hal; cases hal
      exact ⟨rfl,by simp [hne]⟩
theorem eq56 (a b:List qj):F56 a b (fun y0 y1=>F57 y0 y1) = decide (a = b):=by
  unfold F56
  by_cases hl:a.length = b.length
  · rw [decide_eq_true (show (a.length:Int) = (b.length:Int) by omega),Bool.true_and]
    rcases eq56_l1 (b:=b) a [] b rfl hl with ⟨h1,h2⟩ | ⟨h1,h2⟩
    · rw [show F56l1 b (fun y0 y1=>F57 y0 y1) 0 a = .ok () from h1,decide_eq_true h2]
    · rw [show F56l1 b (fun y0 y1=>F57 y0 y1) 0 a = .error false from h1,decide_eq_false h2]
  · rw [decide_eq_false (show ¬ (a.length:Int) = (b.length:Int) by omega),Bool.false_and]
    exact (decide_eq_false (fun q=>hl (by rw [q]))).symm
def tT (T:List qk) (j:Int):qk:=T.getD j.toNat ⟨[]⟩
def In (s:Nat) (j:Int):Prop:=0 ≤ j ∧ j < (s:Int)
theorem cW {T:List qk} {s:Nat} (h:T.length = s) {j:Int} (hj:In s j):getI T j = some (tT T j):=by
  unfold Abs.getI tT
  have:j.toNat < T.length:=by have:=hj.1; have:=hj.2; omega
  rw [if_pos hj.1,List.getElem?_eq_getElem this,List.getD_eq_getElem?_getD,List.getElem?_eq_getElem this]
  rfl
theorem gB {T:List qk} {s:Nat} (h:T.length = s) {i j:Int} (hi:In s i) (hj:In s j) (t:qk):tT (T.set i.toNat t) j = if j = i then t else tT T j:=by
  unfold tT
  have h1:i.toNat < T.length:=by have:=hi.1; have:=hi.2; omega
  rw [List.getD_eq_getElem?_getD,List.getElem?_set,List.getD_eq_getElem?_getD]
  by_cases q:j = i
  · subst q
    rw [if_pos rfl,if_pos h1,if_pos rfl]
    rfl
  · have : ¬ i.toNat = j.toNat:=by have:=hi.1; have:=hj.1; omega
    rw [if_neg this,if_neg q]
def Fr (i:Int) (p:zy) (y:qj):Prop:=y.Leaked = true ∧ y.From = i ∧ y.P = p
theorem fg {y d:qj} (h:keyL y = keyL d):y.P = d.P ∧ y.Leaked = d.Leaked ∧ y.From = d.From ∧ y.Proto = d.Proto:=by
  unfold keyL lkN at h
  simp only [List.cons.injEq,and_true] at h
  obtain ⟨h1,h2,h3,h4,h5,h6⟩:=h
  refine ⟨?_,?_,h4,h5⟩
  · cases hy:y.P; cases hd:d.P
    rw [hy,hd] at h1 h2
    simp only at h1 h2
    rw [h1,h2]
  · cases hy:y.Leaked <;> cases hd:d.Leaked <;> rw [hy,hd] at h3 <;> simp at h3 <;> rfl
theorem isFr (y:qj) (i:Int) (p:zy):(!F109 y i p) = true ↔ ¬ Fr i p y:=by
  unfold F109 F46 Fr
  dsimp only
  rw [peq]
  cases y.Leaked <;> simp [Decidable.imp_iff_not_or]
structure Up (t:qk) (i:Int) (p:zy) (o:Option qj) (t':qk):Prop where
  srt:Srt keyL t'.L
  mem : ∀ y,y ∈ t'.L ↔ (y ∈ t.L ∧ ¬ Fr i p y) ∨ o = some y
theorem do_l1 {s:Nat} {i:Int} {p:zy} {c:qj × Bool} {ti:qk} (hti:TK ti) (hb:F107 ti p = some c) (hi:0 ≤ i ∧ i ≤ 31) (S:List (List qj)) (L0:List zz) :
    ∀ (l:List zz) (T:List qk) (W:List zw),T.length = s → (∀ x ∈ l,x.From = i → In s x.To ∧ TK (tT T x.To) ∧ (tT T x.To).L.length < 500) →
      l.Pairwise (fun a b=>¬ (a.From = b.From ∧ a.To = b.To)) → Srt ik W → W.length + l.length ≤ 90000 →
    ∃ T' W',F71l1 i p c c.2 ⟨T,S,L0,W,false⟩ l = some (c.2,⟨T',S,L0,W',false⟩) ∧ T'.length = s ∧ Srt ik W' ∧
      (∀ j,In s j → (∃ x ∈ l,x.From = i ∧ x.To = j ∧ Up (tT T j) i p (told x ti p) (tT T' j)) ∨ ((∀ x ∈ l,x.From = i → x.To ≠ j) ∧ tT T' j = tT T j)) ∧
      (∀ w,w ∈ W' ↔ w ∈ W ∨ ∃ j,In s j ∧ w = ⟨j,p⟩ ∧ tT T' j ≠ tT T j)
  | [],T,W,hT,_,_,hW,_=>⟨T,W,rfl,hT,hW,fun j _=>.inr ⟨fun x hx=>(by cases hx),rfl⟩,fun w=>⟨.inl,by
      rintro (h | ⟨j,_,_,h⟩)
      · exact h
      · exact absurd rfl h⟩⟩
  | x :: l,T,W,hT,hx,hp,hW,hn=>by
    rw [List.pairwise_cons] at hp
    rw [List.length_cons] at hn
    rw [F71l1]
    by_cases hf:x.From = i
    · rw [decide_eq_true hf,cond_true]
      obtain ⟨hj,htk,hlen⟩:=hx x List.mem_cons_self hf
      have hother : ∀ y ∈ l,y.From = i → y.To ≠ x.To:=fun y hy hyf q=>hp.1 y hy ⟨by rw [hf,hyf],q.symm⟩
      rw [cW hT hj,aD,dz _ (by omega),aD]
      obtain ⟨d,b,e1,e2⟩:=gA (x:=x) hti (p:=p) (c:=c.1) (is:=c.2) hb
      rw [e1,aD]
      have fin : ∀ t':qk,Up (tT T x.To) i p (told x ti p) t' → ∀ o:Bool,o = false →
          ∃ T' W',(bif F56 t'.L (tT T x.To).L (fun y0 y1=>F57 y0 y1) then F71l1 i p c c.2 ⟨T,S,L0,W,o⟩ l
            else obind (F68 ⟨T.set x.To.toNat t',S,L0,W,o⟩ x.To p) (fun c120=>F71l1 i p c c.2 c120 l)) = some (c.2,⟨T',S,L0,W',false⟩) ∧ T'.length = s ∧ Srt ik W' ∧
            (∀ j,In s j → (∃ y ∈ x :: l,y.From = i ∧ y.To = j ∧ Up (tT T j) i p (told y ti p) (tT T' j)) ∨ ((∀ y ∈ x :: l,y.From = i → y.To ≠ j) ∧ tT T' j = tT T j)) ∧
            (∀ w,w ∈ W' ↔ w ∈ W ∨ ∃ j,In s j ∧ w = ⟨j,p⟩ ∧ tT T' j ≠ tT T j):=by
        intro t' hu o ho
        subst ho
        rw [eq56]
        by_cases he:t'.L = (tT T x.To).L
        · have het:t' = tT T x.To:=by cases t'; cases hq:tT T x.To; rw [hq] at he; simpa using he
          rw [decide_eq_true he,cond_true]
          obtain ⟨T',W',g1,g2,g3,g4,g5⟩:=do_l1 hti hb hi S L0 l T W hT (fun y hy=>hx y (List.mem_cons_of_mem _ hy)) hp.2 hW (by omega)
          refine ⟨T',W',g1,g2,g3,fun j hj2=>?_,g5⟩
          rcases g4 j hj2 with ⟨y,hy,h1,h2,h3⟩ | ⟨h1,h2⟩
          · exact .inl ⟨y,List.mem_cons_of_mem _ hy,h1,h2,h3⟩
          · by_cases hjx:x.To = j
            · subst hjx
              exact .inl ⟨x,List.mem_cons_self,hf,rfl,by rw [h2,← het]; rw [← het] at hu; exact hu⟩
            · refine .inr ⟨fun y hy hyf=>?_,h2⟩
              rcases List.mem_cons.1 hy with rfl | hy
              · exact hjx
              · exact h1 y hy hyf
        · rw [decide_eq_false he,cond_false]
          obtain ⟨w,q1,q2,q3,q4⟩:=todo_set ⟨T.set x.To.toNat t',S,L0,W,false⟩ hW (by dsimp only; omega) x.To p
          rw [q1,aD]
          dsimp only at q2 q3 q4
          have hset : ∀ j,In s j → tT (T.set x.To.toNat t') j = if j = x.To then t' else tT T j:=fun j hj2=>gB hT hj hj2 t'
          obtain ⟨T',W',g1,g2,g3,g4,g5⟩:=do_l1 hti hb hi S L0 l (T.set x.To.toNat t') w (by simpa using hT) (fun y hy hyf=>by
            obtain ⟨k1,k2,k3⟩:=hx y (List.mem_cons_of_mem _ hy) hyf
            rw [hset y.To k1,if_neg (hother y hy hyf)]
            exact ⟨k1,k2,k3⟩) hp.2 q2 (by omega)
          have hTx:tT T' x.To = t':=by
            rcases g4 x.To hj with ⟨y,hy,h1,h2,_⟩ | ⟨_,h2⟩
            · exact absurd h2 (hother y hy h1)
            · rw [h2,hset x.To hj,if_pos rfl]
          have hTj : ∀ j,In s j → j ≠ x.To → tT (T.set x.To.toNat t') j = tT T j:=fun j hj2 hne=>by rw [hset j hj2,if_neg hne]
          refine ⟨T',W',g1,g2,g3,fun j hj2=>?_,fun z=>?_⟩
          · by_cases hjx:j = x.To
            · subst hjx
              exact .inl ⟨x,List.mem_cons_self,hf,rfl,by rw [hTx]; exact hu⟩
            · rcases g4 j hj2 with ⟨y,hy,h1,h2,h3⟩ | ⟨h1,h2⟩
              · rw [hTj j hj2 hjx] at h3
                exact .inl ⟨y,List.mem_cons_of_mem _ hy,h1,h2,h3⟩
              · rw [hTj j hj2 hjx] at h2
                refine .inr ⟨fun y hy hyf=>?_,h2⟩
                rcases List.mem_cons.1 hy with rfl | hy
                · exact fun q=>hjx q.symm
                · exact h1 y hy hyf
          · rw [g5,q3]
            constructor
            · rintro ((h | h) | ⟨j,h1,h2,h3⟩)
              · exact .inr ⟨x.To,hj,h,by rw [hTx]; intro q; rw [q] at he; exact he rfl⟩
              · exact .inl h
              · by_cases hjx:j = x.To
                · subst hjx
                  exact .inr ⟨x.To,hj,h2,by rw [hTx]; intro q; rw [q] at he; exact he rfl⟩
                · rw [hTj j h1 hjx] at h3
                  exact .inr ⟨j,h1,h2,h3⟩
            · rintro (h | ⟨j,h1,h2,h3⟩)
              · exact .inl (.inr h)
              · by_cases hjx:j = x.To
                · subst hjx
                  exact .inl (.inl h2)
                · rw [← hTj j h1 hjx] at h3
                  exact .inr ⟨j,h1,h2,h3⟩
      have hfil : ∀ y,y ∈ List.filter (fun z=>!F109 z i p) (tT T x.To).L ↔ y ∈ (tT T x.To).L ∧ ¬ Fr i p y:=fun y=>by rw [List.mem_filter,isFr]
      have none_up:told x ti p = none → Up (tT T x.To) i p (told x ti p) ⟨List.filter (fun z=>!F109 z i p) (tT T x.To).L⟩:=fun hno =>
        ⟨htk.srt.sublist List.filter_sublist,fun y=>by rw [hfil,hno]; simp⟩
      cases hb2:b with
      | false =>
        rw [hb2] at e2
        dsimp only
        rw [cond_false]
        exact fin _ (none_up (by rw [e2]; simp)) false rfl
      | true =>
        rw [hb2] at e2
        dsimp only
        rw [cond_true]
        cases hc2:c.2 with
        | false =>
          rw [hc2] at e2 fin
          rw [cond_false]
          exact fin _ (none_up (by rw [e2]; simp)) false rfl
        | true =>
          rw [hc2] at e2 fin
          have ht:told x ti p = some d:=by rw [e2]; simp
          obtain ⟨m1,m2,m3,_⟩:=bB hti ht
          have hmay:=eW hti ht (by rw [hf]; exact hi)
          have hfl:(List.filter (fun z=>!F109 z i p) (tT T x.To).L).length < 500:=Nat.lt_of_le_of_lt (List.length_filter_le _ _) hlen
          obtain ⟨t',k1,k2,k3,k4,_⟩:=put_set (t:=⟨List.filter (fun z=>!F109 z i p) (tT T x.To).L⟩) (htk.srt.sublist List.filter_sublist) hfl hmay
          rw [cond_true,k1,aD]
          dsimp only
          rw [cond_false]
          refine fin t' ⟨k2,fun y=>?_⟩ _ rfl
          rw [k3,hfil,ht]
          constructor
          · rintro (h | h)
            · exact .inr (by rw [h])
            · exact .inl h.1
          · rintro (h | h)
            · refine .inr ⟨h,fun q=>h.2 ?_⟩
              obtain ⟨q1,q2,q3,_⟩:=fg q
              exact ⟨by rw [q2,m1],by rw [q3,m2,hf],by rw [q1,m3]⟩
            · injection h with h
              exact .inl h.symm
    · rw [decide_eq_false hf,cond_false]
      obtain ⟨T',W',g1,g2,g3,g4,g5⟩:=do_l1 hti hb hi S L0 l T W hT (fun y hy=>hx y (List.mem_cons_of_mem _ hy)) hp.2 hW (by omega)
      refine ⟨T',W',g1,g2,g3,fun j hj2=>?_,g5⟩
      rcases g4 j hj2 with ⟨y,hy,h1,h2,h3⟩ | ⟨h1,h2⟩
      · exact .inl ⟨y,List.mem_cons_of_mem _ hy,h1,h2,h3⟩
      · refine .inr ⟨fun y hy hyf=>?_,h2⟩
        rcases List.mem_cons.1 hy with rfl | hy
        · exact absurd hyf hf
        · exact h1 y hy hyf
def sT (S:List (List qj)) (j:Int):List qj:=S.getD j.toNat []
theorem sT_get {S:List (List qj)} {s:Nat} (h:S.length = s) {j:Int} (hj:In s j):getI S j = some (sT S j):=by
  unfold Abs.getI sT
  have:j.toNat < S.length:=by have:=hj.1; have:=hj.2; omega
  rw [if_pos hj.1,List.getElem?_eq_getElem this,List.getD_eq_getElem?_getD,List.getElem?_eq_getElem this]
  rfl
theorem gG {S:List (List qj)} {s:Nat} (h:S.length = s) {i j:Int} (hi:In s i) (hj:In s j) (t:List qj):sT (S.set i.toNat t) j = if j = i then t else sT S j:=by
  unfold sT
  have h1:i.toNat < S.length:=by have:=hi.1; have:=hi.2; omega
  rw [List.getD_eq_getElem?_getD,List.getElem?_set,List.getD_eq_getElem?_getD]
  by_cases q:j = i
  · subst q
    rw [if_pos rfl,if_pos h1,if_pos rfl]
    rfl
  · have : ¬ i.toNat = j.toNat:=by have:=hi.1; have:=hj.1; omega
    rw [if_neg this,if_neg q]
def prd:Nat → List zy → List (Int × zy)
  | 0,_=>[]
  | s + 1,PS=>prd s PS ++ PS.map fun p=>((s:Int),p)
theorem prd_len (PS:List zy) : ∀ s,(prd s PS).length = s * PS.length
  | 0=>by simp [prd]
  | s + 1=>by rw [prd,List.length_append,prd_len PS s,List.length_map,Nat.succ_mul]
theorem prd_mem {PS:List zy} {i:Int} {p:zy} (hp:p ∈ PS) : ∀ {s:Nat},In s i → (i,p) ∈ prd s PS
  | 0,h=>by have:=h.1; have:=h.2; omega
  | s + 1,h=>by
    rw [prd,List.mem_append]
    by_cases q:i = (s:Int)
    · exact .inr (List.mem_map.2 ⟨p,hp,by rw [q]⟩)
    · exact .inl (prd_mem hp ⟨h.1,by have:=h.2; omega⟩)
theorem fK {α β:Type} {f:α → β} {l:List α} (h:l.Nodup) (hf : ∀ a ∈ l,∀ b ∈ l,f a = f b → a = b):(l.map f).Nodup :=
  List.pairwise_map.2 (h.imp_of_mem fun {a b} ha hb q e=>q (hf a ha b hb e))
theorem eu (f:qj → Bool) : ∀ l:List qj,l.length = (l.filter f).length + (l.filter fun c=>!f c).length
  | []=>rfl
  | x :: l=>by
    have:=eu f l
    rw [List.filter_cons,List.filter_cons]
    cases f x <;> simp <;> omega
structure TW (PS:List zy) (k:Nat) (L:List zz) (i:Int) (t:qk):Prop where
  may : ∀ x ∈ t.L,MayP x
  ps : ∀ x ∈ t.L,x.P ∈ PS
  srt:Srt keyL t.L
  nat:(dD t.L).length ≤ k
  one : ∀ a ∈ t.L,∀ b ∈ t.L,a.Leaked = true → b.Leaked = true → a.From = b.From → a.P = b.P → a = b
  cov : ∀ y ∈ t.L,y.Leaked = true → ∃ x ∈ L,x.From = y.From ∧ x.To = i
structure WF (s:Nat) (PS:List zy) (k:Nat) (n:TNet):Prop where
  s1:1 ≤ s ∧ s ≤ 6
  T:n.T.length = s
  S:n.Sel.length = s
  tw : ∀ i,In s i → TW PS k n.L i (tT n.T i)
  lk : ∀ x ∈ n.L,In s x.From ∧ In s x.To ∧ x.From ≠ x.To
  ld:n.L.Pairwise fun a b=>¬ (a.From = b.From ∧ a.To = b.To)
  ll:n.L.length ≤ k
  ws:Srt ik n.Work
  wk : ∀ w ∈ n.Work,In s w.At ∧ w.P ∈ PS
  ss : ∀ i,In s i → Srt pk (sT n.Sel i)
  sp : ∀ i,In s i → ∀ c ∈ sT n.Sel i,c.P ∈ PS
  ov:n.Over = false
  k30:k ≤ 30
  p30:PS.length ≤ 30
theorem six {s:Nat} (h:s ≤ 6) {m:Nat} (hm:m ≤ 30):s * m ≤ 180:=Nat.le_trans (Nat.mul_le_mul h hm) (by decide)
theorem TW.len {s k:Nat} {PS:List zy} {L:List zz} {i:Int} {t:qk} (w:TW PS k L i t) (h1:s ≤ 6) (lk : ∀ x ∈ L,In s x.From) (h3:k ≤ 30) (h4:PS.length ≤ 30):t.L.length ≤ 210:=by
  have h1':=eu (fun c=>c.Leaked) t.L
  have h2:=w.nat
  unfold dD at h2
  have hin : ∀ a ∈ t.L.filter (fun c=>c.Leaked),a ∈ t.L ∧ a.Leaked = true:=fun a ha=>by simpa using List.mem_filter.1 ha
  have hnd:((t.L.filter fun c=>c.Leaked).map fun y=>(y.From,y.P)).Nodup :=
    fK ((cQ w.srt).sublist List.filter_sublist) fun a ha b hb e=>by
      injection e with e1 e2
      exact w.one a (hin a ha).1 b (hin b hb).1 (hin a ha).2 (hin b hb).2 e1 e2
  have h5:=bV (b:=prd s PS) hnd fun q hq=>by
    obtain ⟨y,hy,rfl⟩:=List.mem_map.1 hq
    obtain ⟨hy1,hy2⟩:=hin y hy
    obtain ⟨x,hx,e,_⟩:=w.cov y hy1 hy2
    exact prd_mem (w.ps y hy1) (e ▸ lk x hx)
  rw [List.length_map,prd_len] at h5
  have:=six h1 h4
  omega
theorem TW.tk {s k:Nat} {PS:List zy} {L:List zz} {i:Int} {t:qk} (w:TW PS k L i t) (h1:s ≤ 6) (lk : ∀ x ∈ L,In s x.From) (h3:k ≤ 30) (h4:PS.length ≤ 30):TK t :=
  ⟨w.may,w.srt,Nat.le_trans (w.len h1 lk h3 h4) (by decide)⟩
theorem WF.len {s k:Nat} {PS:List zy} {n:TNet} (h:WF s PS k n) {i:Int} (hi:In s i):(tT n.T i).L.length ≤ 210 :=
  (h.tw i hi).len h.s1.2 (fun x hx=>(h.lk x hx).1) h.k30 h.p30
theorem WF.tk {s k:Nat} {PS:List zy} {n:TNet} (h:WF s PS k n) {i:Int} (hi:In s i):TK (tT n.T i) :=
  ⟨(h.tw i hi).may,(h.tw i hi).srt,Nat.le_trans (h.len hi) (by decide)⟩
theorem WF.wq {s k:Nat} {PS:List zy} {n:TNet} (h:WF s PS k n) {QS:List zy} (hq : ∀ w ∈ n.Work,w.P ∈ QS):n.Work.length ≤ s * QS.length:=by
  have h4:=bV (a:=n.Work.map fun w=>(w.At,w.P)) (b:=prd s QS) (fK (cQ h.ws) fun a _ b _ e=>by
      injection e with e1 e2
      cases a; cases b
      simp only at e1 e2
      rw [e1,e2]) fun q hq'=>by
    obtain ⟨y,hy,rfl⟩:=List.mem_map.1 hq'
    exact prd_mem (hq y hy) (h.wk y hy).1
  rw [List.length_map,prd_len] at h4
  exact h4
theorem WF.wl {s k:Nat} {PS:List zy} {n:TNet} (h:WF s PS k n):n.Work.length ≤ s * PS.length:=h.wq fun w hw=>(h.wk w hw).2
theorem WF.sl {s k:Nat} {PS:List zy} {n:TNet} (h:WF s PS k n) {i:Int} (hi:In s i):(sT n.Sel i).length ≤ 30:=by
  have h4:=bV (a:=(sT n.Sel i).map fun c=>c.P) (b:=PS) (fK (cQ (h.ss i hi)) fun a ha b hb e=>srt_one (h.ss i hi) ha hb (pk_two.2 e)) fun q hq=>by
    obtain ⟨y,hy,rfl⟩:=List.mem_map.1 hq
    exact h.sp i hi y hy
  rw [List.length_map] at h4
  exact Nat.le_trans h4 h.p30
theorem WF.own {s k:Nat} {PS:List zy} {n:TNet} (h:WF s PS k n):F41 n = some n:=by
  have h1:=h.s1
  have h2:=h.T
  have h3:=h.S
  have h4:=h.ll
  have h5:=h.wl
  have h6:=h.k30
  have:=six h.s1.2 h.p30
  exact own_eq (by omega) (by omega) (by omega) (by omega)
theorem link_one {L:List zz} (h:L.Pairwise fun a b=>¬ (a.From = b.From ∧ a.To = b.To)) {x y:zz} (hx:x ∈ L) (hy:y ∈ L) (e1:x.From = y.From) (e2:x.To = y.To):x = y:=by
  obtain ⟨i,hi,rfl⟩:=List.getElem_of_mem hx
  obtain ⟨j,hj,rfl⟩:=List.getElem_of_mem hy
  rcases Nat.lt_trichotomy i j with q | q | q
  · exact absurd ⟨e1,e2⟩ (List.pairwise_iff_getElem.1 h i j hi hj q)
  · subst q; rfl
  · exact absurd ⟨e1.symm,e2.symm⟩ (List.pairwise_iff_getElem.1 h j i hj hi q)
theorem up_nat {x:zz} {t ti:qk} {i:Int} {p:zy} {t':qk} (hs:Srt keyL t.L) (hti:TK ti) (h:Up t i p (told x ti p) t'):nt_ t' = nt_ t:=by
  unfold nt_
  congr 1
  refine gE (k:=keyL) (h.srt.sublist List.filter_sublist) (hs.sublist List.filter_sublist) fun y=>?_
  unfold dD
  rw [List.mem_filter,List.mem_filter,h.mem]
  constructor
  · rintro ⟨q | q,hy⟩
    · exact ⟨q.1,hy⟩
    · rw [(bB hti q).1] at hy
      cases hy
  · rintro ⟨q,hy⟩
    refine ⟨.inl ⟨q,fun f=>?_⟩,hy⟩
    rw [f.1] at hy
    cases hy
structure DoR (s:Nat) (n m:TNet) (i:Int) (p:zy):Prop where
  ini:In s i
  inw:(⟨i,p⟩ : zw) ∈ n.Work
  L:m.L = n.L
  T : ∀ j,In s j → (∃ x ∈ n.L,x.From = i ∧ x.To = j ∧ Up (tT n.T j) i p (told x (tT n.T i) p) (tT m.T j)) ∨ ((∀ x ∈ n.L,x.From = i → x.To ≠ j) ∧ tT m.T j = tT n.T j)
  W : ∀ w,w ∈ m.Work ↔ (w ∈ n.Work ∧ w ≠ ⟨i,p⟩) ∨ ∃ j,In s j ∧ w = ⟨j,p⟩ ∧ tT m.T j ≠ tT n.T j
  S : ∀ j,In s j → j ≠ i → sT m.Sel j = sT n.Sel j
  Si : ∀ y,y ∈ sT m.Sel i ↔ bst (tT n.T i) p = some y ∨ (y ∈ sT n.Sel i ∧ y.P ≠ p)
theorem do_spec {s k:Nat} {PS:List zy} {n:TNet} (h:WF s PS k n) {W:List zw} (hW:Srt ik W) {i:Int} {p:zy} (hw : ∀ w,w ∈ W ↔ w ∈ n.Work ∧ w ≠ ⟨i,p⟩) (hin:(⟨i,p⟩ : zw) ∈ n.Work) (hn:W.length ≤ n.Work.length) :
    ∃ m,F71 ⟨n.T,n.Sel,n.L,W,n.Over⟩ i p = some m ∧ WF s PS k m ∧ DoR s n m i p:=by
  have hi:=(h.wk _ hin).1
  have hp:=(h.wk _ hin).2
  dsimp only at hi hp
  have hti:=h.tk hi
  have h5:=h.wl
  have h6:=six h.s1.2 h.p30
  have h7:=h.ll
  have h8:=h.k30
  unfold F71
  rw [cW h.T hi,aD]
  obtain ⟨c,hb,hc1,hc2⟩ : ∃ c,F107 (tT n.T i) p = some c ∧ (c.2 = true → c.1.P = p) ∧ (∀ y,(c.2 = true ∧ y = c.1) ↔ bst (tT n.T i) p = some y):=by
    rcases bst_eq hti p with ⟨e,h1,h2⟩ | ⟨h1,h2⟩
    · refine ⟨_,h2,fun _=>((bR hti p e).1 h1).1,fun y=>?_⟩
      rw [h1]
      simp [eq_comm]
    · refine ⟨_,h2,fun q=>(by cases q),fun y=>?_⟩
      rw [h1]
      simp
  rw [hb,aD,sT_get h.S hi,aD]
  obtain ⟨r,g1,g2,g3,g4⟩:=mark_set (h.ss i hi) (by have:=h.sl hi; omega) p c.1 c.2 hc1
  rw [g1,aD,h.ov]
  have hio : ∀ x ∈ n.L,x.From = i → x.To ≠ i:=fun x hx hf=>by rw [← hf]; exact (h.lk x hx).2.2.symm
  obtain ⟨T',W',k1,k2,k3,k4,k5⟩:=do_l1 hti hb (show 0 ≤ i ∧ i ≤ 31 from ⟨hi.1,by have:=hi.2; have:=h.s1.2; omega⟩) (n.Sel.set i.toNat r) n.L n.L n.T W h.T (fun x hx hf=>⟨(h.lk x hx).2.1,h.tk (h.lk x hx).2.1,by have:=h.len (h.lk x hx).2.1; omega⟩) h.ld hW (by omega)
  rw [k1,aD]
  refine ⟨_,rfl,?_,⟨hi,hin,rfl,k4,fun w=>by rw [k5,hw],fun j hj hji=>?_,fun y=>?_⟩⟩
  · refine ⟨h.s1,k2,by simpa using h.S,fun j hj=>?_,h.lk,h.ld,h.ll,k3,fun w hw'=>?_,fun j hj=>?_,fun j hj=>?_,rfl,h.k30,h.p30⟩
    · dsimp only
      have w:=h.tw j hj
      rcases k4 j hj with ⟨x,hx,hf,ht,hu⟩ | ⟨_,he⟩
      · refine ⟨fun y hy=>?_,fun y hy=>?_,hu.srt,?_,fun a ha b hb' hal hbl hab hP=>?_,fun y hy hyl=>?_⟩
        · rcases (hu.mem y).1 hy with q | q
          · exact w.may y q.1
          · exact eW hti q (by rw [hf]; exact ⟨hi.1,by have:=hi.2; have:=h.s1.2; omega⟩)
        · rcases (hu.mem y).1 hy with q | q
          · exact w.ps y q.1
          · rw [(bB hti q).2.2.1]; exact hp
        · have:=up_nat w.srt hti hu
          unfold nt_ at this
          injection this with this
          rw [this]
          exact w.nat
        · rcases (hu.mem a).1 ha with q | q <;> rcases (hu.mem b).1 hb' with q' | q'
          · exact w.one a q.1 b q'.1 hal hbl hab hP
          · obtain ⟨_,t2,t3,_⟩:=bB hti q'
            exact absurd ⟨hal,by rw [hab,t2,hf],by rw [hP,t3]⟩ q.2
          · obtain ⟨_,t2,t3,_⟩:=bB hti q
            exact absurd ⟨hbl,by rw [← hab,t2,hf],by rw [← hP,t3]⟩ q'.2
          · rw [q] at q'
            injection q'
        · rcases (hu.mem y).1 hy with q | q
          · exact w.cov y q.1 hyl
          · exact ⟨x,hx,(bB hti q).2.1.symm,ht⟩
      · rw [he]; exact w
    · rcases (k5 w).1 hw' with q | ⟨j,q1,q2,_⟩
      · exact h.wk w ((hw w).1 q).1
      · rw [q2]; exact ⟨q1,hp⟩
    · dsimp only
      rw [gG h.S hi hj]
      split
      · exact g2
      · exact h.ss j hj
    · dsimp only
      rw [gG h.S hi hj]
      split
      · intro c' hc'
        rcases (g3 c').1 hc' with ⟨q1,q2⟩ | q
        · rw [q2,hc1 q1]; exact hp
        · exact h.sp i hi c' q.1
      · exact h.sp j hj
  · dsimp only
    rw [gG h.S hi hj,if_neg hji]
  · dsimp only
    rw [gG h.S hi hi,if_pos rfl,g3,hc2]
theorem pick_in (i:Int) {n:Nat} (hn:n ≠ 0):0 ≤ Int.tmod (max_ i 0) (n:Int) ∧ Int.tmod (max_ i 0) (n:Int) < n:=by
  have h0:0 ≤ max_ i 0:=by unfold max_; split <;> omega
  exact ⟨Int.tmod_nonneg _ h0,Int.tmod_lt_of_pos _ (by omega)⟩
theorem step_spec {s k:Nat} {PS:List zy} {n:TNet} (h:WF s PS k n) (q:Int):(n.Work = [] ∧ F28 n q = some (n,false)) ∨ ∃ m i p,F28 n q = some (m,true) ∧ WF s PS k m ∧ DoR s n m i p:=by
  unfold F28
  by_cases h0:n.Work.length = 0
  · left
    rw [decide_eq_true (show (n.Work.length:Int) = 0 by omega),cond_true]
    exact ⟨List.length_eq_zero_iff.1 h0,rfl⟩
  · right
    rw [decide_eq_false (show ¬ (n.Work.length:Int) = 0 by omega),cond_false,h.own,aD]
    have hp:=pick_in q h0
    revert hp
    generalize Int.tmod (max_ q 0) (n.Work.length:Int) = r
    intro hp
    obtain ⟨a,rfl⟩:=Int.eq_ofNat_of_zero_le hp.1
    have ha:a < n.Work.length:=by omega
    have hwl:=h.wl
    have:=six h.s1.2 h.p30
    have hw:IntKind.i64.wrap ((a:Int) + 1) = (a:Int) + 1:=wi64 (by omega) (by omega)
    have hsp:n.Work = n.Work.take a ++ n.Work[a] :: n.Work.drop (a + 1):=by rw [← List.drop_eq_getElem_cons ha,List.take_append_drop]
    have hta:(n.Work.take a).length = a:=by rw [List.length_take]; omega
    have hdel:bY n.Work (a:Int) ((a:Int) + 1) = n.Work.take a ++ n.Work.drop (a + 1):=by
      have:=del_at (n.Work.take a) (n.Work.drop (a + 1)) n.Work[a]
      rw [← hsp,hta] at this
      exact this
    rw [decide_eq_true (show (n.Work.length:Int) ≠ 0 by omega),cond_true,bo (List.getElem?_eq_getElem ha),aD,hw,decide_eq_true (show (0:Int) ≤ (a:Int) by omega),cond_true,decide_eq_true (show (a:Int) ≤ (a:Int) + 1 by omega),cond_true,decide_eq_true (show (a:Int) + 1 ≤ (n.Work.length:Int) by omega),cond_true,decide_eq_true (show n.Work.length < 1099511627776 by omega),cond_true,hdel]
    have hs:=h.ws
    rw [hsp] at hs
    have g:=gq hs
    rw [← hsp] at g
    obtain ⟨m,m1,m2,m3⟩:=do_spec h (W:=n.Work.take a ++ n.Work.drop (a + 1)) (i:=n.Work[a].At) (p:=n.Work[a].P) g.1 (fun w=>by
      rw [g.2]
      exact and_congr_right fun _=>⟨fun e e2=>e (by rw [e2]),fun e e2=>e (ik_inj e2)⟩) (List.getElem_mem ha) (by simp; omega)
    rw [m1,aD]
    exact ⟨m,_,_,rfl,m2,m3⟩
def Settled (n:TNet) (i:Int) (p:zy):Prop:=∀ x ∈ n.L,x.From = i → ∀ y,(y ∈ (tT n.T x.To).L ∧ Fr i p y) ↔ told x (tT n.T i) p = some y
section
variable {s k:Nat} {PS:List zy} {n m:TNet} {i:Int} {p:zy}
theorem DoR.Ti (h:WF s PS k n) (d:DoR s n m i p):tT m.T i = tT n.T i:=by
  rcases d.T i d.ini with ⟨x,hx,hf,ht,_⟩ | ⟨_,he⟩
  · exact absurd (hf.trans ht.symm) (h.lk x hx).2.2
  · exact he
theorem DoR.nt (h:WF s PS k n) (d:DoR s n m i p) {j:Int} (hj:In s j):nt_ (tT m.T j) = nt_ (tT n.T j):=by
  rcases d.T j hj with ⟨x,hx,hf,ht,hu⟩ | ⟨_,he⟩
  · exact up_nat (h.tw j hj).srt (h.tk d.ini) hu
  · rw [he]
theorem DoR.mem (h:WF s PS k n) (d:DoR s n m i p) {j:Int} (hj:In s j) {y:qj} (hy : ¬ Fr i p y):y ∈ (tT m.T j).L ↔ y ∈ (tT n.T j).L:=by
  rcases d.T j hj with ⟨x,hx,hf,ht,hu⟩ | ⟨_,he⟩
  · rw [hu.mem]
    constructor
    · rintro (q | q)
      · exact q.1
      · obtain ⟨t1,t2,t3,_⟩:=bB (h.tk d.ini) q
        exact absurd ⟨t1,by rw [t2,hf],t3⟩ hy
    · exact fun q=>.inl ⟨q,hy⟩
  · rw [he]
theorem DoR.bst (h:WF s PS k n) (h':WF s PS k m) (d:DoR s n m i p) {j:Int} (hj:In s j) {q:zy} (hq:q ≠ p ∨ tT m.T j = tT n.T j):bst (tT m.T j) q = bst (tT n.T j) q:=by
  rcases hq with hq | hq
  · refine fS (h'.tk hj) (h.tk hj) q (fun c hc=>d.mem h hj fun f=>hq (by rw [← hc,f.2.2])) fun c _ _ e=>gw (h'.tk hj).hop (h.tk hj).hop ?_ c e
    rw [← gY,← gY (tT n.T j),d.nt h hj]
  · rw [hq]
theorem eX {x:zz} {t t':qk} (h:bst t p = bst t' p):told x t p = told x t' p:=by
  unfold told op
  rw [h]
theorem DoR.keep (h:WF s PS k n) (d:DoR s n m i p) {l:Int} {q:zy} (hne:l ≠ i ∨ q ≠ p) (ht : ∀ x ∈ n.L,told x (tT m.T l) q = told x (tT n.T l) q) (hs:Settled n l q):Settled m l q:=by
  intro x hx hf y
  rw [d.L] at hx
  rw [ht x hx,← hs x hx hf y]
  refine and_congr_left fun f=>d.mem h (h.lk x hx).2.1 fun f2=>?_
  rcases hne with e | e
  · exact e (by rw [← f.2.1,f2.2.1])
  · exact e (by rw [← f.2.2,f2.2.2])
theorem DoR.settled (h:WF s PS k n) (d:DoR s n m i p):Settled m i p:=by
  intro x hx hf y
  rw [d.L] at hx
  rw [d.Ti h]
  have hj:=(h.lk x hx).2.1
  rcases d.T x.To hj with ⟨x',hx',hf',ht',hu⟩ | ⟨hno,_⟩
  · have:=link_one h.ld hx' hx (by rw [hf',hf]) ht'
    subst this
    rw [hu.mem]
    constructor
    · rintro ⟨q | q,f⟩
      · exact absurd f q.2
      · exact q
    · intro q
      obtain ⟨t1,t2,t3,_⟩:=bB (h.tk d.ini) q
      exact ⟨.inr q,t1,by rw [t2,hf],t3⟩
  · exact absurd rfl (hno x hx hf)
structure Dyn (s:Nat) (n:TNet):Prop where
  U : ∀ i p,In s i → (⟨i,p⟩ : zw) ∉ n.Work → Settled n i p
  M : ∀ i p,In s i → (⟨i,p⟩ : zw) ∉ n.Work → ∀ y,(y ∈ sT n.Sel i ∧ y.P = p) ↔ bst (tT n.T i) p = some y
theorem Dyn.step (h:WF s PS k n) (h':WF s PS k m) (d:DoR s n m i p) (g:Dyn s n):Dyn s m:=by
  have key : ∀ l q,In s l → (⟨l,q⟩ : zw) ∉ m.Work → (l ≠ i ∨ q ≠ p) → (⟨l,q⟩ : zw) ∉ n.Work ∧ Abs.bst (tT m.T l) q = Abs.bst (tT n.T l) q:=by
    intro l q hl hw hne
    refine ⟨fun hw2=>hw ((d.W _).2 (.inl ⟨hw2,fun e=>?_⟩)),d.bst h h' hl ?_⟩
    · injection e with e1 e2
      rcases hne with e | e
      · exact e e1
      · exact e e2
    · by_cases hq:q = p
      · subst hq
        exact .inr (Decidable.byContradiction fun e=>hw ((d.W _).2 (.inr ⟨l,hl,rfl,e⟩)))
      · exact .inl hq
  refine ⟨fun l q hl hw=>?_,fun l q hl hw y=>?_⟩
  · by_cases hne:l = i ∧ q = p
    · rw [hne.1,hne.2]
      exact d.settled h
    · have hne:l ≠ i ∨ q ≠ p:=Decidable.not_and_iff_not_or_not.1 hne
      obtain ⟨k1,k2⟩:=key l q hl hw hne
      exact d.keep h hne (fun x _=>eX k2) (g.U l q hl k1)
  · by_cases hne:l = i ∧ q = p
    · rw [hne.1,hne.2,d.Si,d.Ti h]
      constructor
      · rintro ⟨q1 | q1,q2⟩
        · exact q1
        · exact absurd q2 q1.2
      · exact fun q1=>⟨.inl q1,((bR (h.tk d.ini) p y).1 q1).1⟩
    · have hne:l ≠ i ∨ q ≠ p:=Decidable.not_and_iff_not_or_not.1 hne
      obtain ⟨k1,k2⟩:=key l q hl hw hne
      rw [k2,← g.M l q hl k1]
      refine and_congr_left fun hyq=>?_
      by_cases hl2:l = i
      · rw [hl2,d.Si]
        have hq:q ≠ p:=hne.resolve_left fun e=>e hl2
        constructor
        · rintro (q1 | q1)
          · exact absurd (by rw [← hyq,((bR (h.tk d.ini) p y).1 q1).1]) hq
          · exact q1.1
        · exact fun q1=>.inr ⟨q1,by rw [hyq]; exact hq⟩
      · rw [d.S l hl hl2]
end
open Classical
noncomputable def dn (t:qk) (p:zy):Int:=match nb t p with
  | some c=>c.Dist
  | none=>1000
theorem dL {t:qk} {p:zy} {c:qj} (h:nb t p = some c):dn t p = c.Dist:=by unfold dn; rw [h]
theorem dn_nt {t t':qk} (p:zy) (h:nt_ t = nt_ t'):dn t p = dn t' p:=by unfold dn nb; rw [h]
noncomputable def ds (s:Nat) (n:TNet) (p:zy):List Int:=(List.range s).map fun (j:Nat)=>dn (tT n.T (j:Int)) p
noncomputable def wgt (s:Nat) (n:TNet) (p:zy) (j:Int):Nat:=wt (ds s n p) (dn (tT n.T j) p)
def Xx (n:TNet) (D:Int → zy → Prop) (p:zy) (j:Int):Prop:=∃ y ∈ (tT n.T j).L,y.Leaked = true ∧ y.P = p ∧ ¬ D y.From p ∧ y.Dist < dn (tT n.T j) p
noncomputable def term (s:Nat) (n:TNet) (D:Int → zy → Prop) (p:zy) (j:Int):Nat:=if D j p then (if Xx n D p j ∨ ¬ Settled n j p then wgt s n p j else 0) else 5 + wgt s n p j
noncomputable def potp (s:Nat) (n:TNet) (D:Int → zy → Prop) (p:zy):Nat:=sm ((List.range s).map fun (j:Nat)=>term s n D p (j:Int))
noncomputable def pot (s:Nat) (PS:List zy) (n:TNet) (D:Int → zy → Prop):Nat:=n.Work.length + sm (PS.map (potp s n D))
structure Gh (s:Nat) (n:TNet) (D:Int → zy → Prop):Prop where
  cl : ∀ u p,D u p → ∀ j,In s j → ∀ y ∈ (tT n.T j).L,Fr u p y → ∃ c,nb (tT n.T u) p = some c ∧ y.Dist = c.Dist
  xs : ∀ j p,In s j → D j p → Xx n D p j → Settled n j p
def D1 (D:Int → zy → Prop) (i:Int) (p:zy):Int → zy → Prop:=fun u q=>D u q ∨ (u = i ∧ q = p)
theorem mem_range {s:Nat} {j:Int} (h:In s j):j.toNat ∈ List.range s ∧ ((j.toNat:Nat):Int) = j:=by
  have:=h.1; have:=h.2
  exact ⟨List.mem_range.2 (by omega),by omega⟩
theorem cY {s a:Nat} (h:a ∈ List.range s):In s (a:Int):=by
  have:=List.mem_range.1 h
  exact ⟨by omega,by omega⟩
section
variable {s k:Nat} {PS:List zy} {n m:TNet} {i:Int} {p:zy} {D:Int → zy → Prop}
theorem DoR.ds (h:WF s PS k n) (d:DoR s n m i p) (q:zy):ds s m q = ds s n q:=by
  unfold Abs.ds
  exact List.map_congr_left fun a ha=>dn_nt q (d.nt h (cY ha))
theorem DoR.wg (h:WF s PS k n) (d:DoR s n m i p) {j:Int} (hj:In s j) (q:zy):wgt s m q j = wgt s n q j:=by
  unfold wgt
  rw [d.ds h,dn_nt q (d.nt h hj)]
theorem x_none (ht:TK (tT n.T i)) (hx:Xx n D p i):op (tT n.T i) p = none:=by
  cases ho:op (tT n.T i) p with
  | none=>rfl
  | some c =>
    obtain ⟨h1,h2⟩:=(eG ht p c).1 ho
    obtain ⟨y,hy,h3,h4,_,h5⟩:=hx
    have:=h2 y hy h3 h4
    rw [dL h1] at h5
    omega
theorem DoR.xx (h:WF s PS k n) (d:DoR s n m i p) {j:Int} (hj:In s j) {q:zy} (hx:Xx m (D1 D i p) q j):Xx n D q j:=by
  obtain ⟨y,h1,h2,h3,h4,h5⟩:=hx
  rw [dn_nt q (d.nt h hj)] at h5
  refine ⟨y,(d.mem h hj fun f=>h4 (.inr ⟨f.2.1,by rw [← h3,f.2.2]⟩)).1 h1,h2,h3,fun e=>h4 (.inl e),h5⟩
theorem DoR.same_op (h:WF s PS k n) (h':WF s PS k m) (d:DoR s n m i p) (g:Gh s n D) {l:Int} (hl:In s l) (hx : ¬ Xx n D p l) (hd:dn (tT n.T l) p ≤ dn (tT n.T i) p ∨ (¬ D i p ∧ Xx n D p i)):op (tT m.T l) p = op (tT n.T l) p:=by
  have hnb:nb (tT m.T l) p = nb (tT n.T l) p:=by unfold nb; rw [d.nt h hl]
  have key : ∀ c,op (tT m.T l) p = some c ↔ op (tT n.T l) p = some c:=by
    intro c
    rw [eG (h'.tk hl),eG (h.tk hl),hnb]
    refine and_congr_right fun hc=>⟨fun a y hy hyl hyp=>?_,fun a y hy hyl hyp=>?_⟩
    · by_cases f:Fr i p y
      · by_cases hD:D i p
        · obtain ⟨c',e1,e2⟩:=g.cl i p hD l hl y hy f
          rcases hd with hd | hd
          · rw [dL hc,dL e1] at hd
            omega
          · exact absurd hD hd.1
        · refine Decidable.byContradiction fun q=>hx ⟨y,hy,hyl,hyp,by rw [f.2.1]; exact hD,by rw [dL hc]; omega⟩
      · exact a y ((d.mem h hl f).2 hy) hyl hyp
    · by_cases f:Fr i p y
      · rcases d.T l hl with ⟨x,hx',hf,ht,hu⟩ | ⟨_,he⟩
        · rcases (hu.mem y).1 hy with q | q
          · exact absurd f q.2
          · obtain ⟨_,_,_,c',e0,e1,e2,_⟩:=bB (h.tk d.ini) q
            rcases hd with hd | hd
            · rw [dL hc,dL e1] at hd
              omega
            · rw [x_none (h.tk d.ini) hd.2] at e0
              cases e0
        · rw [he] at hy
          exact a y hy hyl hyp
      · exact a y ((d.mem h hl f).1 hy) hyl hyp
  cases ho:op (tT n.T l) p with
  | some c=>exact (key c).2 ho
  | none =>
    cases ho':op (tT m.T l) p with
    | none=>rfl
    | some c=>rw [(key c).1 ho'] at ho; cases ho
theorem cV {x:zz} {t t':qk} (h:op t p = op t' p):told x t p = told x t' p:=by
  unfold told
  rw [h]
theorem Gh.step (h:WF s PS k n) (h':WF s PS k m) (d:DoR s n m i p) (g:Gh s n D):Gh s m (D1 D i p):=by
  refine ⟨fun u q hD j hj y hy f=>?_,fun j q hj hD hx=>?_⟩
  · by_cases e:u = i ∧ q = p
    · rw [e.1,e.2] at f ⊢
      rcases d.T j hj with ⟨x,hx,hf,ht,hu⟩ | ⟨hno,he⟩
      · rcases (hu.mem y).1 hy with q1 | q1
        · exact absurd f q1.2
        · obtain ⟨_,_,_,c,_,e1,e2,_⟩:=bB (h.tk d.ini) q1
          rw [d.Ti h]
          exact ⟨c,e1,e2⟩
      · obtain ⟨x,hx,e1,e2⟩:=(h'.tw j hj).cov y hy f.1
        rw [d.L] at hx
        exact absurd e2 (hno x hx (e1.trans f.2.1))
    · have hD2:D u q:=hD.resolve_right e
      have nf : ¬ Fr i p y:=fun f2=>e ⟨by rw [← f.2.1,f2.2.1],by rw [← f.2.2,f2.2.2]⟩
      have hy2:=(d.mem h hj nf).1 hy
      obtain ⟨c,e1,e2⟩:=g.cl u q hD2 j hj y hy2 f
      have hu:In s u:=by
        obtain ⟨x,hx,e3,_⟩:=(h.tw j hj).cov y hy2 f.1
        rw [← f.2.1,← e3]
        exact (h.lk x hx).1
      refine ⟨c,?_,e2⟩
      unfold nb at e1 ⊢
      rw [d.nt h hu]
      exact e1
  · by_cases e:j = i ∧ q = p
    · rw [e.1,e.2]
      exact d.settled h
    · have hD2:D j q:=hD.resolve_right e
      have hxn:=d.xx h hj hx
      have h1:op (tT n.T j) q = none:=x_none (h.tk hj) hxn
      have h2:op (tT m.T j) q = none:=x_none (h'.tk hj) hx
      exact d.keep h (Decidable.not_and_iff_not_or_not.1 e) (fun x _=>cV (by rw [h1,h2])) (g.xs j q hj hD2 hxn)
theorem DoR.idle (h:WF s PS k n) (h':WF s PS k m) (d:DoR s n m i p) (hs:Settled n i p) {j:Int} (hj:In s j):tT m.T j = tT n.T j:=by
  rcases d.T j hj with ⟨x,hx,hf,ht,hu⟩ | ⟨_,he⟩
  · have:(tT m.T j).L = (tT n.T j).L:=gE (k:=keyL) hu.srt (h.tw j hj).srt fun y=>by
      rw [hu.mem,← hs x hx hf y,ht]
      constructor
      · rintro (q | q)
        · exact q.1
        · exact q.1
      · intro q
        by_cases f:Fr i p y
        · exact .inr ⟨q,f⟩
        · exact .inl ⟨q,f⟩
    cases hm:tT m.T j; cases hn:tT n.T j
    rw [hm,hn] at this
    simpa using this
  · exact he
theorem DoR.term_le (h:WF s PS k n) (d:DoR s n m i p) {l:Int} (hl:In s l) {q:zy} (hne:l ≠ i ∨ q ≠ p) (hs:D l q → ¬ Xx n D q l → Settled n l q → Settled m l q):term s m (D1 D i p) q l ≤ term s n D q l:=by
  have hD:D1 D i p l q ↔ D l q:=⟨fun e=>e.resolve_right fun e2=>hne.elim (fun a=>a e2.1) (fun a=>a e2.2),.inl⟩
  unfold term
  rw [d.wg h hl]
  by_cases c1:D l q
  · rw [if_pos (hD.2 c1),if_pos c1]
    by_cases c2:Xx n D q l ∨ ¬ Settled n l q
    · rw [if_pos c2]
      split <;> omega
    · rw [if_neg c2]
      have c3 : ¬ Xx n D q l:=fun e=>c2 (.inl e)
      have c4:Settled n l q:=Decidable.byContradiction fun e=>c2 (.inr e)
      rw [if_neg]
      · exact Nat.le_refl _
      · rintro (e | e)
        · exact c3 (d.xx h hl e)
        · exact e (hs c1 c3 c4)
  · rw [if_neg (fun e=>c1 (hD.1 e)),if_neg c1]
    exact Nat.le_refl _
theorem term_up (D:Int → zy → Prop) (l:Int) (q:zy):term s n D q l ≤ 5 + wgt s n q l:=by
  unfold term
  split
  · split <;> omega
  · omega
theorem DoR.term_i (h:WF s PS k n) (d:DoR s n m i p):term s m (D1 D i p) p i ≤ if Xx m (D1 D i p) p i then wgt s n p i else 0:=by
  unfold term
  rw [if_pos (.inr ⟨rfl,rfl⟩),d.wg h d.ini]
  have:=d.settled h
  by_cases c:Xx m (D1 D i p) p i
  · rw [if_pos (.inl c),if_pos c]
    exact Nat.le_refl _
  · rw [if_neg (by rintro (e | e); exact c e; exact e this),if_neg c]
    exact Nat.le_refl _
theorem DoR.potp_other (h:WF s PS k n) (h':WF s PS k m) (d:DoR s n m i p) {q:zy} (hq:q ≠ p):potp s m (D1 D i p) q ≤ potp s n D q :=
  sm_le fun a ha=>d.term_le h (cY ha) (.inr hq) fun _ _=>d.keep h (.inr hq) fun x _=>eX (d.bst h h' (cY ha) (.inl hq))
theorem DoR.potp_this (h:WF s PS k n) (h':WF s PS k m) (d:DoR s n m i p) (g:Gh s n D):potp s m (D1 D i p) p ≤ potp s n D p ∧ ((∃ j,In s j ∧ tT m.T j ≠ tT n.T j) → potp s m (D1 D i p) p + 5 ≤ potp s n D p):=by
  obtain ⟨hr1,hr2⟩:=mem_range d.ini
  have hsi:=d.settled h
  have ti:=d.term_i (D:=D) h
  have pay : ∀ (e:Nat → Nat) (C E:Nat),(∀ a ∈ List.range s,(a:Int) ≠ i → term s m (D1 D i p) p (a:Int) ≤ term s n D p (a:Int) + e a) → term s m (D1 D i p) p i + C ≤ term s n D p i → sm ((List.range s).map e) ≤ E → potp s m (D1 D i p) p + C ≤ potp s n D p + E:=by
    intro e C E h1 h2 h3
    refine sm_pay (k:=i.toNat) (e:=e) hr1 h3 (fun a ha=>?_) (by rw [hr2]; exact h2)
    by_cases c:(a:Int) = i
    · rw [c]; omega
    · exact h1 a ha c
  have ups:sm ((List.range s).map fun (a:Nat)=>if dn (tT n.T i) p < dn (tT n.T (a:Int)) p then wgt s n p (a:Int) else 0) + 5 ≤ wgt s n p i:=wt_if (fun (a:Nat)=>dn (tT n.T (a:Int)) p) (List.range s) (dn (tT n.T i) p)
  have h_up : ∀ a ∈ List.range s,(a:Int) ≠ i → term s m (D1 D i p) p (a:Int) ≤ term s n D p (a:Int) + if dn (tT n.T i) p < dn (tT n.T (a:Int)) p then wgt s n p (a:Int) else 0:=by
    intro a ha hne
    have hl:=cY ha
    by_cases c:dn (tT n.T i) p < dn (tT n.T (a:Int)) p
    · rw [if_pos c]
      have hD:D1 D i p (a:Int) p ↔ D (a:Int) p:=⟨fun e=>e.resolve_right fun e2=>hne e2.1,.inl⟩
      unfold term
      rw [d.wg h hl]
      by_cases c1:D (a:Int) p
      · rw [if_pos (hD.2 c1)]
        split
        · omega
        · omega
      · rw [if_neg (fun e=>c1 (hD.1 e)),if_neg c1]
        omega
    · rw [if_neg c]
      exact d.term_le h hl (.inl hne) fun _ hx=>d.keep h (.inl hne) fun x _=>cV (d.same_op h h' g hl hx (.inl (by omega)))
  by_cases hD:D i p
  · by_cases hs:Settled n i p
    ·
      have idle:=fun j (hj:In s j)=>d.idle h h' hs hj
      refine ⟨sm_le fun a ha=>?_,fun ⟨j,hj,e⟩=>absurd (idle j hj) e⟩
      have hl:=cY ha
      by_cases c:(a:Int) = i
      · rw [c]
        refine Nat.le_trans ti ?_
        unfold term
        rw [if_pos hD]
        by_cases hx:Xx m (D1 D i p) p i
        · rw [if_pos hx,if_pos (.inl (d.xx h d.ini hx))]
          exact Nat.le_refl _
        · rw [if_neg hx]
          exact Nat.zero_le _
      · exact d.term_le h hl (.inl c) fun _ _=>d.keep h (.inl c) fun x _=>by rw [idle _ hl]
    · have hx : ¬ Xx n D p i:=fun e=>hs (g.xs i p d.ini hD e)
      have hx' : ¬ Xx m (D1 D i p) p i:=fun e=>hx (d.xx h d.ini e)
      rw [if_neg hx'] at ti
      have t0:term s n D p i = wgt s n p i:=by
        unfold term
        rw [if_pos hD,if_pos (.inr hs)]
      have:=pay _ (wgt s n p i) (wgt s n p i - 5) h_up (by omega) (by omega)
      exact ⟨by omega,fun _=>by omega⟩
  · have t0:term s n D p i = 5 + wgt s n p i:=by
      unfold term
      rw [if_neg hD]
    by_cases hx:Xx n D p i
    · have ti2:term s m (D1 D i p) p i ≤ wgt s n p i:=Nat.le_trans ti (by split <;> omega)
      have:=pay (fun _=>0) 5 0 (fun a ha hne=>d.term_le h (cY ha) (.inl hne) fun _ hx2=>d.keep h (.inl hne) fun x _=>cV (d.same_op h h' g (cY ha) hx2 (.inr ⟨hD,hx⟩))) (by omega) (by rw [dY]; omega)
      exact ⟨by omega,fun _=>by omega⟩
    · have hx' : ¬ Xx m (D1 D i p) p i:=fun e=>hx (d.xx h d.ini e)
      rw [if_neg hx'] at ti
      have:=pay _ (5 + wgt s n p i) (wgt s n p i - 5) h_up (by omega) (by omega)
      exact ⟨by omega,fun _=>by omega⟩
theorem DoR.work (h:WF s PS k n) (h':WF s PS k m) (d:DoR s n m i p):m.Work.length + 1 ≤ n.Work.length + 5 ∧ ((∀ j,In s j → tT m.T j = tT n.T j) → m.Work.length + 1 ≤ n.Work.length):=by
  obtain ⟨A,B,hAB⟩:=List.append_of_mem d.inw
  have hlen:n.Work.length = A.length + B.length + 1:=by rw [hAB]; simp; omega
  have hmem : ∀ w,w ∈ n.Work → w ≠ ⟨i,p⟩ → w ∈ A ++ B:=by
    intro w hw hne
    rw [hAB] at hw
    simp only [List.mem_append,List.mem_cons] at hw ⊢
    rcases hw with q | q | q
    · exact .inl q
    · exact absurd q hne
    · exact .inr q
  obtain ⟨hr1,hr2⟩:=mem_range d.ini
  obtain ⟨A2,B2,h2⟩:=List.append_of_mem hr1
  have hl2:(A2 ++ B2).length ≤ 5:=by
    have:=congrArg List.length h2
    rw [List.length_range] at this
    have:=h.s1.2
    simp at *
    omega
  constructor
  · have:=bV (a:=m.Work) (b:=(A ++ B) ++ (A2 ++ B2).map fun (a:Nat)=>(⟨(a:Int),p⟩ : zw)) (cQ h'.ws) fun w hw=>by
      rcases (d.W w).1 hw with q | ⟨j,hj,rfl,hne⟩
      · exact List.mem_append_left _ (hmem w q.1 q.2)
      · refine List.mem_append_right _ (List.mem_map.2 ⟨j.toNat,?_,by rw [(mem_range hj).2]⟩)
        have hm:=(mem_range hj).1
        rw [h2] at hm
        simp only [List.mem_append,List.mem_cons] at hm ⊢
        rcases hm with q | q | q
        · exact .inl q
        · have:j = i:=by have:=hj.1; have:=d.ini.1; omega
          subst this
          exact absurd (d.Ti h) hne
        · exact .inr q
    rw [List.length_append,List.length_map] at this
    simp only [List.length_append] at this hl2
    omega
  · intro hno
    have:=bV (a:=m.Work) (b:=A ++ B) (cQ h'.ws) fun w hw=>by
      rcases (d.W w).1 hw with q | ⟨j,hj,rfl,hne⟩
      · exact hmem w q.1 q.2
      · exact absurd (hno j hj) hne
    simp only [List.length_append] at this
    omega
theorem DoR.falls (QS:List zy) (h:WF s PS k n) (h':WF s PS k m) (d:DoR s n m i p) (g:Gh s n D) (hp:p ∈ QS):pot s QS m (D1 D i p) + 1 ≤ pot s QS n D:=by
  unfold pot
  obtain ⟨w1,w2⟩:=d.work h h'
  obtain ⟨p1,p2⟩:=d.potp_this h h' g
  have hle : ∀ q ∈ QS,potp s m (D1 D i p) q ≤ potp s n D q + 0:=fun q _=>by
    by_cases e:q = p
    · rw [e]; exact p1
    · exact d.potp_other h h' e
  have z:sm (QS.map fun _=>0) ≤ 0:=by rw [dY]; omega
  by_cases c : ∃ j,In s j ∧ tT m.T j ≠ tT n.T j
  · have:=sm_pay (C:=5) hp z hle (p2 c)
    omega
  · have:=sm_pay (C:=0) hp z hle p1
    have:=w2 fun j hj=>Decidable.byContradiction fun e=>c ⟨j,hj,e⟩
    omega
theorem pot_zero (QS:List zy) (h:WF s PS k n):pot s QS n (fun _ _=>False) ≤ n.Work.length + 345 * QS.length:=by
  unfold pot
  have:sm (QS.map (potp s n fun _ _=>False)) ≤ sm (QS.map fun _=>345):=sm_le fun q _=>by
    unfold potp
    have h1:sm ((List.range s).map fun (j:Nat)=>term s n (fun _ _=>False) q (j:Int)) ≤ sm ((List.range s).map fun (j:Nat)=>(fun _=>5) j + (fun (j:Nat)=>wgt s n q (j:Int)) j):=sm_le fun a _=>term_up _ _ _
    have e:((List.range s).map fun (j:Nat)=>wgt s n q (j:Int)) = (Abs.ds s n q).map (wt (Abs.ds s n q)):=by
      have : ∀ f:Int → Nat,((List.range s).map fun (j:Nat)=>f (dn (tT n.T (j:Int)) q)) = (Abs.ds s n q).map f:=fun f=>by unfold Abs.ds; rw [List.map_map]; rfl
      exact this (wt (Abs.ds s n q))
    rw [sm_add,dY,List.length_range,e] at h1
    have:=wt_all (ds:=Abs.ds s n q) (n:=6) (by unfold Abs.ds; rw [List.length_map,List.length_range]; exact h.s1.2)
    have:=h.s1.2
    omega
  rw [dY] at this
  omega
structure Done (s:Nat) (PS:List zy) (k:Nat) (n m:TNet):Prop where
  wf:WF s PS k m
  dyn:Dyn s m
  work:m.Work = []
  L:m.L = n.L
  nt : ∀ j,In s j → nt_ (tT m.T j) = nt_ (tT n.T j)
theorem drain_l1 (QS:List zy) (picks:List Int) : ∀ (fuel many:Nat) (n:TNet) (D:Int → zy → Prop),WF s PS k n → Dyn s n → Gh s n D → (∀ w ∈ n.Work,w.P ∈ QS) → pot s QS n D < fuel → many + fuel ≤ 1000000 →
    ∃ (m:TNet) (c:Nat),F9l1 picks fuel (many:Int) n = some (.error (m,(c:Int))) ∧ c ≤ many + pot s QS n D ∧ Done s PS k n m
  | 0,many,n,D,_,_,_,_,hf,_=>by omega
  | fuel + 1,many,n,D,h,g,gh,hq,hf,hm=>by
    have step : ∀ q:Int,∃ (m:TNet) (c:Nat),obind (F28 n q) (fun c23=>(bif c23.2 then F9l1 picks fuel (IntKind.i64.wrap ((many:Int) + 1)) c23.1 else some (.error ((n,(many:Int)))))) = some (.error (m,(c:Int))) ∧ c ≤ many + pot s QS n D ∧ Done s PS k n m:=by
      intro q
      rcases step_spec h q with ⟨h1,h2⟩ | ⟨m,i,p,h1,h2,d⟩
      · rw [h2,aD]
        exact ⟨n,many,rfl,by omega,h,g,h1,rfl,fun _ _=>rfl⟩
      · rw [h1,aD]
        have hp:=hq _ d.inw
        have hfall:=d.falls QS h h2 gh hp
        have hw:IntKind.i64.wrap ((many:Int) + 1) = ((many + 1:Nat):Int):=by rw [wi64 (by omega) (by omega)]; omega
        obtain ⟨m',c,k1,k2,k3⟩:=drain_l1 QS picks fuel (many + 1) m (D1 D i p) h2 (g.step h h2 d) (gh.step h h2 d) (fun w hw'=>by
          rcases (d.W w).1 hw' with e | ⟨j,_,e,_⟩
          · exact hq w e.1
          · rw [e]; exact hp) (by omega) (by omega)
        rw [hw]
        exact ⟨m',c,k1,by omega,k3.wf,k3.dyn,k3.work,k3.L.trans d.L,fun j hj=>(k3.nt j hj).trans (d.nt h hj)⟩
    rw [F9l1]
    by_cases hc:(many:Int) < (picks.length:Int)
    · rw [decide_eq_true hc,cond_true,bo (List.getElem?_eq_getElem (show many < picks.length by omega)),aD]
      exact step _
    · rw [decide_eq_false hc,cond_false]
      exact step 0
theorem gX (QS:List zy) (h:WF s PS k n) (g:Dyn s n) (hq : ∀ w ∈ n.Work,w.P ∈ QS) (hl:QS.length ≤ 250) (picks:List Int) : ∃ (m:TNet) (c:Nat),F9 n picks = some (m,(c:Int)) ∧ c ≤ n.Work.length + 345 * QS.length ∧ Done s PS k n m:=by
  have h0:=pot_zero QS h
  have h1:=h.wl
  have h2:=six h.s1.2 h.p30
  obtain ⟨m,c,e,h3,h4⟩:=drain_l1 QS picks 100000 0 n (fun _ _=>False) h g ⟨fun _ _ q=>q.elim,fun _ _ _ q=>q.elim⟩ hq (by omega) (by omega)
  unfold F9
  rw [show F9l1 picks 100000 0 n = _ from e]
  exact ⟨m,c,rfl,by omega,h4⟩
end
def Sat {α:Type} (o:Option α) (Q:α → Prop):Prop:=∃ a,o = some a ∧ Q a
theorem Sat.bind {α β:Type} {o:Option α} {f:α → Option β} {Q:α → Prop} {R:β → Prop} (h:Sat o Q) (k : ∀ a,Q a → Sat (f a) R):Sat (obind o f) R:=by
  obtain ⟨a,rfl,h⟩:=h
  exact k a h
theorem Sat.mono {α:Type} {o:Option α} {Q R:α → Prop} (h:Sat o Q) (k : ∀ a,Q a → R a):Sat o R:=by
  obtain ⟨a,e,h⟩:=h
  exact ⟨a,e,k a h⟩
theorem bu {α:Type} {c:Bool} {a b:Option α} {Q:α → Prop} (h1:c = true → Sat a Q) (h2:c = false → Sat b Q):Sat (bif c then a else b) Q:=by
  cases c
  · exact h2 rfl
  · exact h1 rfl
structure More (W W':List zw) (i:Int) (P:zy → Prop) (k:Nat):Prop where
  srt:Srt ik W'
  mem : ∀ w,w ∈ W' ↔ w ∈ W ∨ (w.At = i ∧ P w.P)
  len:W'.length ≤ W.length + k
theorem et {n:TNet} {i:Int} {p:zy} (hs:Srt ik n.Work) (hl:n.Work.length ≤ 90000) : ∃ w,F68 n i p = some ⟨n.T,n.Sel,n.L,w,n.Over⟩ ∧ More n.Work w i (fun q=>q = p) 1:=by
  obtain ⟨w,h1,h2,h3,h4⟩:=todo_set n hs hl i p
  refine ⟨w,h1,h2,fun z=>?_,h4⟩
  rw [h3]
  obtain ⟨a,b⟩:=z
  simp only [zw.mk.injEq]
  rw [or_comm]
theorem More.trans {W W' W'':List zw} {i:Int} {P Q:zy → Prop} {k l:Nat} (h:More W W' i P k) (g:More W' W'' i Q l):More W W'' i (fun q=>P q ∨ Q q) (k + l) :=
  ⟨g.srt,fun w=>by rw [g.mem,h.mem,or_assoc,← and_or_left],by have:=h.len; have:=g.len; omega⟩
theorem More.imp {W W':List zw} {i:Int} {P Q:zy → Prop} {k l:Nat} (h:More W W' i P k) (hkl:k ≤ l) (e : ∀ q,P q ↔ Q q):More W W' i Q l :=
  ⟨h.srt,fun w=>by rw [h.mem,e],Nat.le_trans h.len (by omega)⟩
theorem ex_cons {P:qj → Prop} {y:qj} {l:List qj} (h:P y) (q:zy):(q = y.P ∨ ∃ c ∈ l,P c ∧ c.P = q) ↔ ∃ c ∈ y :: l,P c ∧ c.P = q:=by
  constructor
  · rintro (rfl | ⟨x,hx,e⟩)
    · exact ⟨y,List.mem_cons_self,h,rfl⟩
    · exact ⟨x,List.mem_cons_of_mem _ hx,e⟩
  · rintro ⟨x,hx,e1,e2⟩
    rcases List.mem_cons.1 hx with rfl | hx
    · exact .inl e2.symm
    · exact .inr ⟨x,hx,e1,e2⟩
theorem ex_skip {P:qj → Prop} {y:qj} {l:List qj} (h : ¬ P y) (q:zy):(∃ c ∈ l,P c ∧ c.P = q) ↔ ∃ c ∈ y :: l,P c ∧ c.P = q:=by
  constructor
  · exact fun ⟨x,hx,e⟩=>⟨x,List.mem_cons_of_mem _ hx,e⟩
  · rintro ⟨x,hx,e1,e2⟩
    rcases List.mem_cons.1 hx with rfl | hx
    · exact absurd e1 h
    · exact ⟨x,hx,e1,e2⟩
theorem join_more {i:Int} : ∀ (l:List qj) (n:TNet),Srt ik n.Work → n.Work.length + l.length ≤ 90000 → ∃ w,F25l1 i n.L n.Over n.T n.Sel n.Work l = some (n.L,n.Over,n.T,n.Sel,w) ∧ More n.Work w i (fun q=>∃ c ∈ l,c.P = q) l.length
  | [],n,hs,_=>⟨n.Work,rfl,hs,fun w=>by simp,by simp⟩
  | x :: l,n,hs,hl=>by
    rw [List.length_cons] at hl
    obtain ⟨w,h1,h2⟩:=et (n:=n) (i:=i) (p:=x.P) hs (by omega)
    have:=h2.len
    obtain ⟨w',g1,g2⟩:=join_more l ⟨n.T,n.Sel,n.L,w,n.Over⟩ h2.srt (by dsimp only; omega)
    rw [F25l1,h1,aD]
    exact ⟨w',g1,(h2.trans g2).imp (by rw [List.length_cons]; omega) fun q=>by simp [eq_comm]⟩
theorem fF {x:zz} : ∀ (l:List qj) (n:TNet),Srt ik n.Work → n.Work.length + l.length ≤ 90000 → ∃ w,F32l1 x n.L n.Over n.T n.Sel n.Work l = some (n.L,n.Over,n.T,n.Sel,w) ∧ More n.Work w x.To (fun q=>∃ c ∈ l,F46 c x.From = true ∧ c.P = q) l.length
  | [],n,hs,_=>⟨n.Work,rfl,hs,fun w=>by simp,by simp⟩
  | y :: l,n,hs,hl=>by
    rw [List.length_cons] at hl
    rw [F32l1]
    cases hc:F46 y x.From with
    | true =>
      obtain ⟨w,h1,h2⟩:=et (n:=n) (i:=x.To) (p:=y.P) hs (by omega)
      have:=h2.len
      obtain ⟨w',g1,g2⟩:=fF (x:=x) l ⟨n.T,n.Sel,n.L,w,n.Over⟩ h2.srt (by dsimp only; omega)
      rw [cond_true,h1,aD]
      exact ⟨w',g1,(h2.trans g2).imp (by rw [List.length_cons]; omega) (ex_cons (P:=fun c=>F46 c x.From = true) hc)⟩
    | false =>
      obtain ⟨w',g1,g2⟩:=fF (x:=x) l n hs (by omega)
      rw [cond_false]
      exact ⟨w',g1,g2.imp (by rw [List.length_cons]; omega) (ex_skip (P:=fun c=>F46 c x.From = true) (by rw [hc]; exact Bool.false_ne_true))⟩
theorem ef {i:Int} {c:qj} : ∀ (l:List qj) (n:TNet),Srt ik n.Work → n.Work.length + l.length ≤ 90000 → ∃ w,F69l1 i c n l = some ⟨n.T,n.Sel,n.L,w,n.Over⟩ ∧ More n.Work w i (fun q=>∃ x ∈ l,(c.Proto = 0 ∧ x.Proto = 1 ∧ x.Leaked = false) ∧ x.P = q) l.length
  | [],n,hs,_=>⟨n.Work,rfl,hs,fun w=>by simp,by simp⟩
  | y :: l,n,hs,hl=>by
    rw [List.length_cons] at hl
    rw [F69l1]
    have skip : ¬ (c.Proto = 0 ∧ y.Proto = 1 ∧ y.Leaked = false) → ∃ w,F69l1 i c n l = some ⟨n.T,n.Sel,n.L,w,n.Over⟩ ∧ More n.Work w i (fun q=>∃ x ∈ y :: l,(c.Proto = 0 ∧ x.Proto = 1 ∧ x.Leaked = false) ∧ x.P = q) (y :: l).length:=fun hno=>by
      obtain ⟨w',g1,g2⟩:=ef (i:=i) (c:=c) l n hs (by omega)
      exact ⟨w',g1,g2.imp (by rw [List.length_cons]; omega) (ex_skip (P:=fun x=>c.Proto = 0 ∧ x.Proto = 1 ∧ x.Leaked = false) hno)⟩
    by_cases h0:c.Proto = 0
    · rw [decide_eq_true h0,cond_true]
      by_cases h1:y.Proto = 1
      · rw [decide_eq_true h1,cond_true]
        cases hk:y.Leaked with
        | true =>
          rw [cond_true]
          exact skip fun q=>by rw [hk] at q; cases q.2.2
        | false =>
          obtain ⟨w,g1,g2⟩:=et (n:=n) (i:=i) (p:=y.P) hs (by omega)
          have:=g2.len
          obtain ⟨w',k1,k2⟩:=ef (i:=i) (c:=c) l ⟨n.T,n.Sel,n.L,w,n.Over⟩ g2.srt (by dsimp only; omega)
          rw [cond_false,g1,aD]
          exact ⟨w',k1,(g2.trans k2).imp (by rw [List.length_cons]; omega) (ex_cons (P:=fun x=>c.Proto = 0 ∧ x.Proto = 1 ∧ x.Leaked = false) ⟨h0,h1,hk⟩)⟩
      · rw [decide_eq_false h1,cond_false]
        exact skip fun q=>h1 q.2.1
    · rw [decide_eq_false h0,cond_false]
      exact skip fun q=>h0 q.1
section
variable {s k:Nat} {PS:List zy} {n:TNet}
theorem TW.mono {L:List zz} {i:Int} {t:qk} (h:TW PS k L i t) {PS':List zy} {k':Nat} {L':List zz} (hp : ∀ p ∈ PS,p ∈ PS') (hk:k ≤ k') (hL : ∀ x ∈ L,x ∈ L'):TW PS' k' L' i t :=
  ⟨h.may,fun x hx=>hp _ (h.ps x hx),h.srt,Nat.le_trans h.nat hk,h.one,fun y hy hl=>by
    obtain ⟨x,hx,e⟩:=h.cov y hy hl
    exact ⟨x,hL x hx,e⟩⟩
theorem WF.mono (h:WF s PS k n) {PS':List zy} {k':Nat} (hp : ∀ p ∈ PS,p ∈ PS') (hk:k ≤ k') (h1:k' ≤ 30) (h2:PS'.length ≤ 30):WF s PS' k' n :=
  ⟨h.s1,h.T,h.S,fun i hi=>(h.tw i hi).mono hp hk fun _ q=>q,h.lk,h.ld,Nat.le_trans h.ll hk,h.ws,fun w hw=>⟨(h.wk w hw).1,hp _ (h.wk w hw).2⟩,h.ss,fun i hi c hc=>hp _ (h.sp i hi c hc),h.ov,h1,h2⟩
theorem chg_net (h:WF s PS k n) (g:Dyn s n) {i:Int} (hi:In s i) {t2:qk} {c:qj} (h1:k + 1 ≤ 30) (h2:PS.length + 1 ≤ 30) (hc:c.Leaked = false)
    (hs:Srt keyL t2.L) (hm : ∀ y,y ∈ t2.L → (MayP y ∧ y.P = c.P) ∨ y ∈ (tT n.T i).L) (hk : ∀ y,keyL y ≠ keyL c → (y ∈ t2.L ↔ y ∈ (tT n.T i).L)) (hl:t2.L.length ≤ (tT n.T i).L.length + 1)
    (hf : ∀ f:qj → Bool,(∀ z,keyL z = keyL c → f z = false) → t2.L.filter f = (tT n.T i).L.filter f) :
    ∃ m,F69 n i t2 c = some m ∧ WF s (c.P :: PS) (k + 1) m ∧ Dyn s m:=by
  have w:=h.tw i hi
  have hlen:=h.len hi
  have hwl:=h.wl
  have h6:=six h.s1.2 h.p30
  unfold F69
  rw [h.own,aD,cW h.T hi,aD]
  obtain ⟨w1,e1,m1⟩:=et (n:=⟨n.T.set i.toNat t2,n.Sel,n.L,n.Work,n.Over⟩) (i:=i) (p:=c.P) h.ws (by dsimp only; omega)
  rw [e1,aD]
  have:w1.length ≤ n.Work.length + 1:=m1.len
  obtain ⟨w2,e2,m2⟩:=ef (i:=i) (c:=c) t2.L ⟨n.T.set i.toNat t2,n.Sel,n.L,w1,n.Over⟩ m1.srt (by dsimp only; omega)
  rw [e2,aD]
  have mm:=m1.trans m2
  dsimp only at mm
  have kp : ∀ z,keyL z = keyL c → z.Leaked = false ∧ z.P = c.P ∧ z.Proto = c.Proto:=fun z e=>by
    obtain ⟨e1,e2,_,e4⟩:=fg e
    exact ⟨by rw [e2,hc],e1,e4⟩
  have hlk : ∀ y,y.Leaked = true → (y ∈ t2.L ↔ y ∈ (tT n.T i).L):=fun y hy=>hk y fun e=>by rw [(kp y e).1] at hy; cases hy
  have hset : ∀ j,In s j → tT (n.T.set i.toNat t2) j = if j = i then t2 else tT n.T j:=fun j hj=>gB h.T hi hj t2
  have tw2:TW (c.P :: PS) (k + 1) n.L i t2:=by
    refine ⟨fun x hx=>?_,fun x hx=>?_,hs,?_,fun a ha b hb hal hbl=>w.one a ((hlk a hal).1 ha) b ((hlk b hbl).1 hb) hal hbl,fun y hy hyl=>w.cov y ((hlk y hyl).1 hy) hyl⟩
    · rcases hm x hx with q | q
      · exact q.1
      · exact w.may x q
    · rcases hm x hx with q | q
      · rw [q.2]; exact List.mem_cons_self
      · exact List.mem_cons_of_mem _ (w.ps x q)
    · have a1:=eu (fun c=>c.Leaked) t2.L
      have a2:=eu (fun c=>c.Leaked) (tT n.T i).L
      rw [hf (fun c=>c.Leaked) fun z e=>(kp z e).1] at a1
      have a3:=w.nat
      unfold dD at a3 ⊢
      omega
  have hwf:WF s (c.P :: PS) (k + 1) ⟨n.T.set i.toNat t2,n.Sel,n.L,w2,n.Over⟩:=by
    refine ⟨h.s1,by simpa using h.T,h.S,fun j hj=>?_,h.lk,h.ld,Nat.le_succ_of_le h.ll,mm.srt,fun z hz=>?_,h.ss,fun j hj x hx=>List.mem_cons_of_mem _ (h.sp j hj x hx),h.ov,h1,h2⟩
    · dsimp only
      rw [hset j hj]
      split
      · rename_i e
        subst e
        exact tw2
      · exact (h.tw j hj).mono (fun p hp=>List.mem_cons_of_mem _ hp) (Nat.le_succ k) fun _ q=>q
    · rcases (mm.mem z).1 hz with q | ⟨q1,q2 | ⟨x,hx,_,q2⟩⟩
      · exact ⟨(h.wk z q).1,List.mem_cons_of_mem _ (h.wk z q).2⟩
      · rw [q1,q2]
        exact ⟨hi,List.mem_cons_self⟩
      · rw [q1,← q2]
        exact ⟨hi,tw2.ps x hx⟩
  refine ⟨_,rfl,hwf,?_⟩
  have key : ∀ l q,In s l → (⟨l,q⟩ : zw) ∉ w2 → (⟨l,q⟩ : zw) ∉ n.Work ∧ bst (tT (n.T.set i.toNat t2) l) q = bst (tT n.T l) q:=by
    intro l q hl' hw
    refine ⟨fun e=>hw ((mm.mem _).2 (.inl e)),?_⟩
    rw [hset l hl']
    split
    · rename_i e
      subst e
      have hq:q ≠ c.P:=fun e=>hw ((mm.mem _).2 (.inr ⟨rfl,.inl e⟩))
      have tk2:=hwf.tk hl'
      dsimp only at tk2
      rw [hset l hl',if_pos rfl] at tk2
      refine fS tk2 (h.tk hl') q (fun y hy=>hk y fun e=>hq (by rw [← hy,(kp y e).2.1])) fun y hy hyq e=>?_
      by_cases h0:c.Proto = 0
      · have hst:y.Proto ≠ 1 ∨ y.Leaked = true:=by
          refine Decidable.byContradiction fun q2=>hw ((mm.mem _).2 (.inr ⟨rfl,.inr ⟨y,hy,⟨h0,Decidable.byContradiction fun q3=>q2 (.inl q3),?_⟩,hyq⟩⟩))
          rw [Bool.eq_false_iff]
          exact fun q3=>q2 (.inr q3)
        rw [d8 hst,d8 hst]
      · refine gw tk2.hop (h.tk hl').hop ?_ y e
        unfold gm
        refine hf _ fun z e=>?_
        rw [(kp z e).2.2,decide_eq_false h0]
        rfl
    · rfl
  have lk2 : ∀ j,In s j → ∀ y,y.Leaked = true → (y ∈ (tT (n.T.set i.toNat t2) j).L ↔ y ∈ (tT n.T j).L):=by
    intro j hj y hy
    rw [hset j hj]
    split
    · rename_i e
      subst e
      exact hlk y hy
    · exact Iff.rfl
  refine ⟨fun l q hl' hw x hx hxf y=>?_,fun l q hl' hw y=>?_⟩
  · obtain ⟨k1,k2⟩:=key l q hl' hw
    dsimp only
    rw [eX k2,← g.U l q hl' k1 x hx hxf y]
    exact and_congr_left fun f=>lk2 _ (h.lk x hx).2.1 y f.1
  · obtain ⟨k1,k2⟩:=key l q hl' hw
    dsimp only
    rw [k2]
    exact g.M l q hl' k1 y
def Good (s k:Nat) (PS:List zy) (m:TNet):Prop:=∃ PS',PS'.length ≤ PS.length + 1 ∧ WF s PS' (k + 1) m ∧ Dyn s m
theorem cR (h:WF s PS k n) (g:Dyn s n) (h1:k + 1 ≤ 30):Good s k PS n:=⟨PS,Nat.le_succ _,h.mono (fun _ q=>q) (Nat.le_succ k) h1 h.p30,g⟩
theorem dH (h:WF s PS k n) (i:Int):F64 n i = some (decide (0 ≤ i ∧ i < (s:Int))):=by
  unfold F64
  rw [h.T]
  by_cases h0:0 ≤ i
  · simp [h0]
  · simp [h0]
theorem put_good (h:WF s PS k n) (g:Dyn s n) (h1:k + 1 ≤ 30) (h2:PS.length + 1 ≤ 30) (i:Int) (c:qj):Sat (F27 n i c) (fun r=>Good s k PS r.1):=by
  have same:=cR h g h1
  unfold F27
  rw [dH h,aD]
  refine bu (fun hi=>?_) (fun _=>⟨_,rfl,same⟩)
  have hi:In s i:=of_decide_eq_true (p:=0 ≤ i ∧ i < (s:Int)) hi
  refine bu (fun _=>⟨_,rfl,same⟩) (fun hc=>?_)
  rw [cW h.T hi,aD]
  have hlen:=h.len hi
  by_cases hm:MayP c
  · obtain ⟨t',e1,e2,e3,e4,e5⟩:=put_set (t:=tT n.T i) (h.tw i hi).srt (by omega) hm
    rw [e1,aD]
    obtain ⟨m,k1,k2,k3⟩:=chg_net h g hi h1 h2 hc e2 (fun y hy=>by
      rcases (e3 y).1 hy with q | q
      · rw [q]; exact .inl ⟨hm,rfl⟩
      · exact .inr q.1) (fun y hy=>by
      rw [e3]
      constructor
      · rintro (q | q)
        · rw [q] at hy; exact absurd rfl hy
        · exact q.1
      · exact fun q=>.inr ⟨q,hy⟩) e4 e5
    dsimp only
    rw [k1,aD]
    exact ⟨_,rfl,_,Nat.le_refl _,k2,k3⟩
  · rw [put_bad hm,aD]
    exact ⟨_,rfl,same⟩
theorem drop_good (h:WF s PS k n) (g:Dyn s n) (h1:k + 1 ≤ 30) (h2:PS.length + 1 ≤ 30) (i:Int) (c:qj):Sat (F31 n i c) (fun r=>Good s k PS r.1):=by
  have same:=cR h g h1
  unfold F31
  rw [dH h,aD]
  refine bu (fun hi=>?_) (fun _=>⟨_,rfl,same⟩)
  have hi:In s i:=of_decide_eq_true (p:=0 ≤ i ∧ i < (s:Int)) hi
  refine bu (fun _=>⟨_,rfl,same⟩) (fun hc=>?_)
  rw [cW h.T hi,aD]
  have hlen:=h.len hi
  rcases drop_set (t:=tT n.T i) (h.tw i hi).srt (by omega) c with e1 | ⟨t',e1,e2,e3,e4,e5⟩
  · rw [e1,aD]
    exact ⟨_,rfl,same⟩
  · rw [e1,aD]
    obtain ⟨m,k1,k2,k3⟩:=chg_net h g hi h1 h2 hc e2 (fun y hy=>.inr ((e3 y).1 hy).1) (fun y hy=>by
      rw [e3]
      exact ⟨fun q=>q.1,fun q=>⟨q,hy⟩⟩) (by omega) e5
    dsimp only
    rw [cond_true,k1,aD]
    exact ⟨_,rfl,_,Nat.le_refl _,k2,k3⟩
theorem has_link (f:zz → Bool) : ∀ (l:List zz) (i:Nat),(F103l1 f i l = .ok () ∧ ∀ x ∈ l,f x = false) ∨ ∃ r:Nat,F103l1 f i l = .error (r:Int)
  | [],i=>.inl ⟨rfl,fun x hx=>by cases hx⟩
  | x :: l,i=>by
    rw [F103l1]
    cases hx:f x with
    | true=>exact .inr ⟨i,rfl⟩
    | false =>
      rcases has_link f l (i + 1) with ⟨h1,h2⟩ | h
      · refine .inl ⟨h1,fun y hy=>?_⟩
        rcases List.mem_cons.1 hy with rfl | hy
        · exact hx
        · exact h2 y hy
      · exact .inr h
theorem join_good (h:WF s PS k n) (g:Dyn s n) (h1:k + 1 ≤ 30) (a b:Int) (mp:List zx):Sat (F25 n a b mp) (fun r=>Good s k PS r.1):=by
  have same:=cR h g h1
  unfold F25
  rw [dH h,dH h,aD,aD]
  refine bu (fun ha=>?_) (fun _=>⟨_,rfl,same⟩)
  refine bu (fun hb=>?_) (fun _=>⟨_,rfl,same⟩)
  have ha:In s a:=of_decide_eq_true (p:=0 ≤ a ∧ a < (s:Int)) ha
  have hb:In s b:=of_decide_eq_true (p:=0 ≤ b ∧ b < (s:Int)) hb
  refine bu (fun _=>⟨_,rfl,same⟩) (fun hab=>?_)
  have hab:=of_decide_eq_false hab
  refine bu (fun _=>?_) (fun _=>⟨_,rfl,same⟩)
  refine bu (fun _=>⟨_,rfl,same⟩) (fun hno=>?_)
  have hno : ∀ x ∈ n.L,¬ (x.From = a ∧ x.To = b):=by
    unfold F66 F103 at hno
    rcases has_link (fun y0=>F67 y0 a b) n.L 0 with ⟨_,e⟩ | ⟨r,e⟩
    · intro x hx q
      have:=e x hx
      unfold F67 at this
      simp [q.1,q.2] at this
    · rw [e] at hno
      simp at hno
  have hlen:=h.len ha
  have hwl:=h.wl
  have h6:=six h.s1.2 h.p30
  have hll:=h.ll
  have hov:=h.ov
  rw [h.own,aD,decide_eq_true (show n.L.length < 1099511627776 by omega),cond_true,cW h.T ha,aD]
  obtain ⟨w,e1,e2⟩:=join_more (i:=a) (tT n.T a).L ⟨n.T,n.Sel,n.L ++ [⟨a,b,mp⟩],n.Work,n.Over⟩ h.ws (by dsimp only; omega)
  dsimp only at e1 e2
  rw [e1,aD]
  refine ⟨_,rfl,PS,Nat.le_succ _,?_,?_⟩
  · refine ⟨h.s1,h.T,h.S,fun i hi=>(h.tw i hi).mono (fun _ q=>q) (Nat.le_succ k) fun x hx=>List.mem_append_left _ hx,fun x hx=>?_,?_,by simp; omega,e2.srt,fun z hz=>?_,h.ss,h.sp,h.ov,h1,h.p30⟩
    · rcases List.mem_append.1 hx with q | q
      · exact h.lk x q
      · rw [List.mem_singleton.1 q]
        exact ⟨ha,hb,hab⟩
    · refine List.pairwise_append.2 ⟨h.ld,List.pairwise_singleton _ _,fun x hx y hy=>?_⟩
      rw [List.mem_singleton.1 hy]
      exact hno x hx
    · rcases (e2.mem z).1 hz with q | ⟨q1,c,q2,q3⟩
      · exact h.wk z q
      · rw [q1,← q3]
        exact ⟨ha,(h.tw a ha).ps c q2⟩
  · refine ⟨fun l q hl hw x hx hxf y=>?_,fun l q hl hw y=>g.M l q hl (fun e=>hw ((e2.mem _).2 (.inl e))) y⟩
    have hw1:(⟨l,q⟩ : zw) ∉ n.Work:=fun e=>hw ((e2.mem _).2 (.inl e))
    dsimp only at hx ⊢
    rcases List.mem_append.1 hx with e | e
    · exact g.U l q hl hw1 x e hxf y
    · rw [List.mem_singleton.1 e] at hxf ⊢
      dsimp only at hxf ⊢
      subst hxf
      constructor
      · rintro ⟨q1,f⟩
        obtain ⟨x',k1,k2,k3⟩:=(h.tw b hb).cov y q1 f.1
        exact absurd ⟨k2.trans f.2.1,k3⟩ (hno x' k1)
      · intro ht
        obtain ⟨_,_,_,c,k1,_⟩:=bB (h.tk hl) ht
        obtain ⟨k2,⟨d,k3,k4⟩,_⟩:=(bR (h.tk hl) q c).1 (op_some.1 k1).1
        refine absurd ((e2.mem _).2 (.inr ⟨rfl,d,k3,?_⟩)) hw
        rw [← (d9 k4 ((h.tk hl).hop d k3)).1,k2]
theorem part_good (h:WF s PS k n) (g:Dyn s n) (h1:k + 1 ≤ 30) (i:Int):Sat (F32 n i) (fun r=>Good s k PS r.1):=by
  have same:=cR h g h1
  have hll:=h.ll
  have hwl:=h.wl
  have h6:=six h.s1.2 h.p30
  unfold F32
  refine bu (fun _=>⟨_,rfl,same⟩) (fun i0=>?_)
  refine bu (fun _=>⟨_,rfl,same⟩) (fun i1=>?_)
  obtain ⟨a,rfl⟩:=Int.eq_ofNat_of_zero_le (show 0 ≤ i by have:=of_decide_eq_false i0; omega)
  have ha:a < n.L.length:=by have:=of_decide_eq_false i1; omega
  rw [bo (List.getElem?_eq_getElem ha),aD,h.own,aD]
  have hw:IntKind.i64.wrap ((a:Int) + 1) = (a:Int) + 1:=wi64 (by omega) (by omega)
  obtain ⟨A,B,hsp,hta⟩ : ∃ A B,n.L = A ++ n.L[a] :: B ∧ A.length = a:=⟨n.L.take a,n.L.drop (a + 1),by rw [← List.drop_eq_getElem_cons ha,List.take_append_drop],by rw [List.length_take]; omega⟩
  have hdel:bY n.L (a:Int) ((a:Int) + 1) = A ++ B:=by
    have:=del_at A B n.L[a]
    rw [← hsp,hta] at this
    exact this
  have hx:n.L[a] ∈ n.L:=List.getElem_mem ha
  have hld:=h.ld
  rw [hw,decide_eq_true (show (0:Int) ≤ (a:Int) by omega),cond_true,decide_eq_true (show (a:Int) ≤ (a:Int) + 1 by omega),cond_true,decide_eq_true (show (a:Int) + 1 ≤ (n.L.length:Int) by omega),cond_true,decide_eq_true (show n.L.length < 1099511627776 by omega),cond_true,hdel]
  clear hdel hw
  revert hsp hx
  generalize n.L[a] = x
  intro hsp hx
  obtain ⟨hfx,htx,hne⟩:=h.lk x hx
  have hlen:=h.len htx
  rw [cW h.T htx,aD]
  obtain ⟨w,e1,e2⟩:=fF (x:=x) (tT n.T x.To).L ⟨n.T,n.Sel,A ++ B,n.Work,n.Over⟩ h.ws (by dsimp only; omega)
  dsimp only at e1 e2
  rw [e1,aD]
  dsimp only
  rw [cW h.T htx,aD,dz _ (by omega),aD]
  have hsub : ∀ y ∈ A ++ B,y ∈ n.L:=fun y hy=>by
    rw [hsp]
    rcases List.mem_append.1 hy with q | q
    · exact List.mem_append_left _ q
    · exact List.mem_append_right _ (List.mem_cons_of_mem _ q)
  have hrest : ∀ y ∈ n.L,y ≠ x → y ∈ A ++ B:=fun y hy e=>by
    rw [hsp] at hy
    simp only [List.mem_append,List.mem_cons] at hy ⊢
    rcases hy with q | q | q
    · exact .inl q
    · exact absurd q e
    · exact .inr q
  have hnot : ∀ y ∈ A ++ B,¬ (y.From = x.From ∧ y.To = x.To):=fun y hy e=>by
    rw [hsp,List.pairwise_append,List.pairwise_cons] at hld
    rcases List.mem_append.1 hy with q | q
    · exact hld.2.2 y q x List.mem_cons_self e
    · exact hld.2.1.1 y q ⟨e.1.symm,e.2.symm⟩
  have hfil : ∀ y,y ∈ (tT n.T x.To).L.filter (fun z=>!F76 z x) ↔ y ∈ (tT n.T x.To).L ∧ ¬ (y.Leaked = true ∧ y.From = x.From):=fun y=>by
    rw [List.mem_filter]
    unfold F76 F46
    cases y.Leaked <;> simp
  have hnat:dD ((tT n.T x.To).L.filter (fun z=>!F76 z x)) = dD (tT n.T x.To).L:=by
    unfold dD
    rw [List.filter_filter]
    refine List.filter_congr fun c _=>?_
    unfold F76 F46
    cases c.Leaked <;> simp
  have hset : ∀ j,In s j → tT (n.T.set x.To.toNat ⟨(tT n.T x.To).L.filter (fun z=>!F76 z x)⟩) j = if j = x.To then ⟨(tT n.T x.To).L.filter (fun z=>!F76 z x)⟩ else tT n.T j:=fun j hj=>gB h.T htx hj _
  have wt:=h.tw x.To htx
  have hwf:WF s PS (k + 1) ⟨n.T.set x.To.toNat ⟨(tT n.T x.To).L.filter (fun z=>!F76 z x)⟩,n.Sel,A ++ B,w,n.Over⟩:=by
    refine ⟨h.s1,by simpa using h.T,h.S,fun j hj=>?_,fun y hy=>h.lk y (hsub y hy),?_,by have:=congrArg List.length hsp; simp at this ⊢; omega,e2.srt,fun z hz=>?_,h.ss,h.sp,h.ov,h1,h.p30⟩
    · dsimp only
      rw [hset j hj]
      split
      · rename_i e
        subst e
        refine ⟨fun y hy=>wt.may y ((hfil y).1 hy).1,fun y hy=>wt.ps y ((hfil y).1 hy).1,wt.srt.sublist List.filter_sublist,by rw [hnat]; exact Nat.le_succ_of_le wt.nat,fun y hy z hz=>wt.one y ((hfil y).1 hy).1 z ((hfil z).1 hz).1,fun y hy hyl=>?_⟩
        obtain ⟨q1,q2⟩:=(hfil y).1 hy
        obtain ⟨z,k1,k2,k3⟩:=wt.cov y q1 hyl
        exact ⟨z,hrest z k1 fun e=>q2 ⟨hyl,by rw [← k2,e]⟩,k2,k3⟩
      · rename_i e
        have wj:=h.tw j hj
        refine ⟨wj.may,wj.ps,wj.srt,Nat.le_succ_of_le wj.nat,wj.one,fun y hy hyl=>?_⟩
        obtain ⟨z,k1,k2,k3⟩:=wj.cov y hy hyl
        exact ⟨z,hrest z k1 fun e2=>e (by rw [← k3,e2]),k2,k3⟩
    · have:(A ++ B).Sublist n.L:=by rw [hsp]; exact List.Sublist.append (List.Sublist.refl _) (List.sublist_cons_self _ _)
      exact hld.sublist this
    · rcases (e2.mem z).1 hz with q | ⟨q1,c,q2,_,q3⟩
      · exact h.wk z q
      · rw [q1,← q3]
        exact ⟨htx,wt.ps c q2⟩
  refine ⟨_,rfl,PS,Nat.le_succ _,hwf,?_⟩
  have key : ∀ l q,In s l → (⟨l,q⟩ : zw) ∉ w → (⟨l,q⟩ : zw) ∉ n.Work ∧ bst (tT (n.T.set x.To.toNat ⟨(tT n.T x.To).L.filter (fun z=>!F76 z x)⟩) l) q = bst (tT n.T l) q:=by
    intro l q hl hw
    refine ⟨fun e=>hw ((e2.mem _).2 (.inl e)),?_⟩
    have tkl:=hwf.tk hl
    dsimp only at tkl
    rw [hset l hl] at tkl ⊢
    by_cases e:l = x.To
    · subst e
      rw [if_pos rfl] at tkl ⊢
      refine fS tkl (h.tk hl) q (fun y hy=>?_) fun y _ _ e=>gw tkl.hop (h.tk hl).hop ?_ y e
      · dsimp only
        rw [hfil]
        refine ⟨fun a=>a.1,fun a=>⟨a,fun b=>hw ((e2.mem _).2 (.inr ⟨rfl,y,a,?_,hy⟩))⟩⟩
        unfold F46
        rw [b.1,decide_eq_true b.2]
        rfl
      · rw [← gY,← gY (tT n.T x.To)]
        unfold nt_
        rw [hnat]
    · rw [if_neg e]
  refine ⟨fun l q hl hw y hy hyf z=>?_,fun l q hl hw z=>?_⟩
  · obtain ⟨k1,k2⟩:=key l q hl hw
    dsimp only at hy ⊢
    rw [eX k2,← g.U l q hl k1 y (hsub y hy) hyf z,hset y.To (h.lk y (hsub y hy)).2.1]
    refine and_congr_left fun f=>?_
    by_cases e:y.To = x.To
    · rw [if_pos e]
      dsimp only
      rw [hfil,e]
      exact ⟨fun a=>a.1,fun a=>⟨a,fun b=>hnot y hy ⟨by rw [hyf,← f.2.1,b.2],e⟩⟩⟩
    · rw [if_neg e]
  · obtain ⟨k1,k2⟩:=key l q hl hw
    dsimp only
    rw [k2]
    exact g.M l q hl k1 z
theorem act_good (h:WF s PS k n) (g:Dyn s n) (h1:k + 1 ≤ 30) (h2:PS.length + 1 ≤ 30) (a:TAct):Sat (F14 n a) (fun r=>Good s k PS r.1):=by
  unfold F14
  refine bu (fun _=>?_) (fun _=>bu (fun _=>?_) (fun _=>bu (fun _=>?_) (fun _=>bu (fun _=>?_) (fun _=>?_))))
  · exact Sat.bind (put_good h g h1 h2 _ _) fun r hr=>⟨_,rfl,hr⟩
  · exact Sat.bind (drop_good h g h1 h2 _ _) fun r hr=>⟨_,rfl,hr⟩
  · exact Sat.bind (join_good h g h1 _ _ _) fun r hr=>⟨_,rfl,hr⟩
  · exact Sat.bind (part_good h g h1 _) fun r hr=>⟨_,rfl,hr⟩
  · rcases step_spec h a.To with ⟨_,e⟩ | ⟨m,i,p,e,k1,k2⟩
    · rw [e,aD]
      exact ⟨_,rfl,cR h g h1⟩
    · rw [e,aD]
      exact ⟨_,rfl,cR k1 (g.step h k1 k2) h1⟩
end
theorem small_l1 : ∀ l:List zx,Sat (F13l1 l) (fun _=>True)
  | []=>⟨_,rfl,trivial⟩
  | x :: l=>by
    rw [F13l1]
    exact bu (fun _=>⟨_,rfl,trivial⟩) (fun _=>bu (fun _=>⟨_,rfl,trivial⟩) (fun _=>small_l1 l))
theorem small_sat (a:TAct):Sat (F13 a) (fun _=>True):=by
  unfold F13
  refine bu (fun _=>⟨_,rfl,trivial⟩) (fun _=>bu (fun _=>⟨_,rfl,trivial⟩) (fun _=>?_))
  obtain ⟨r,e,_⟩:=small_l1 a.Map
  rw [e]
  cases r
  · exact ⟨_,rfl,trivial⟩
  · exact ⟨_,rfl,trivial⟩
def Net (n:TNet):Prop:=∃ s PS k,WF s PS k n ∧ Dyn s n
theorem hU {s:Nat} : ∀ (l:List TAct) (n:TNet) (i:Nat) (PS:List zy),WF s PS i n → Dyn s n → PS.length ≤ i → i ≤ 30 → Sat (F7l1 n i l) Net
  | [],n,i,PS,h,g,_,_=>⟨n,rfl,s,PS,i,h,g⟩
  | x :: l,n,i,PS,h,g,hp,hi=>by
    rw [F7l1]
    refine bu (fun hq=>?_) (fun _=>⟨n,rfl,s,PS,i,h,g⟩)
    have hq:i < 30:=by have:=of_decide_eq_true hq; omega
    refine Sat.bind (small_sat x) fun b _=>?_
    refine bu (fun _=>?_) (fun _=>hU l n (i + 1) PS (h.mono (fun _ q=>q) (Nat.le_succ i) (by omega) h.p30) g (by omega) (by omega))
    refine Sat.bind (act_good h g (by omega) (by omega) x) fun r hr=>?_
    obtain ⟨PS',k1,k2,k3⟩:=hr
    exact hU l r.1 (i + 1) PS' k2 k3 (by omega) (by omega)
theorem rep_T (s:Nat) (j:Int):tT (List.replicate s ⟨[]⟩) j = ⟨[]⟩:=by
  unfold tT
  rw [List.getD_eq_getElem?_getD,List.getElem?_replicate]
  split <;> rfl
theorem rep_S (s:Nat) (j:Int):sT (List.replicate s []) j = []:=by
  unfold sT
  rw [List.getD_eq_getElem?_getD,List.getElem?_replicate]
  split <;> rfl
theorem built_net (size:Int) (script:List TAct):Sat (F7 size script) (fun r=>r.2 = true → Net r.1):=by
  unfold F7 F11
  by_cases h1:size < 1
  · rw [decide_eq_true h1,cond_true,aD]
    exact ⟨_,rfl,fun q=>by cases q⟩
  rw [decide_eq_false h1,cond_false]
  by_cases h6:6 < size
  · rw [decide_eq_true h6,cond_true,aD]
    exact ⟨_,rfl,fun q=>by cases q⟩
  rw [decide_eq_false h6,cond_false,decide_eq_true (show (0:Int) ≤ size by omega),cond_true,decide_eq_true (show size < 1099511627776 by omega),cond_true,aD]
  have d:decide ((0:Int) = 0) = true:=rfl
  dsimp only
  rw [d,cond_true]
  have h0:WF size.toNat [] 0 ⟨List.replicate size.toNat ⟨[]⟩,List.replicate size.toNat [],[],[],false⟩:=by
    refine ⟨by omega,List.length_replicate ..,List.length_replicate ..,fun i _=>?_,fun x hx=>(by cases hx),.nil,Nat.le_refl _,.nil,fun w hw=>(by cases hw),fun i _=>?_,fun i _=>?_,rfl,by omega,by simp⟩
    · dsimp only
      rw [rep_T]
      exact ⟨fun x hx=>(by cases hx),fun x hx=>(by cases hx),.nil,Nat.le_refl _,fun x hx=>(by cases hx),fun x hx=>(by cases hx)⟩
    · dsimp only
      rw [rep_S]
      exact .nil
    · dsimp only
      rw [rep_S]
      exact fun x hx=>(by cases hx)
  have g0:Dyn size.toNat ⟨List.replicate size.toNat ⟨[]⟩,List.replicate size.toNat [],[],[],false⟩:=by
    refine ⟨fun i p _ _ x hx=>(by cases hx),fun i p hi _ y=>?_⟩
    rw [bR (h0.tk hi)]
    dsimp only
    rw [rep_S,rep_T]
    constructor
    · rintro ⟨q,_⟩
      cases q
    · rintro ⟨_,⟨c,q,_⟩,_⟩
      cases q
  exact Sat.bind (hU script _ 0 [] h0 g0 (Nat.le_refl _) (by omega)) fun n hn=>⟨_,rfl,fun _=>hn⟩
theorem l8_alive:F8 = some true:=by kernel_rfl
theorem nb_dist {t:qk} (h:TK t) {p:zy} {c:qj} (hb:nb t p = some c):0 ≤ c.Dist:=by
  obtain ⟨_,⟨d,hd,hl⟩,_⟩:=(bR h.nt p c).1 hb
  rw [(d9 hl (h.nt.hop d hd)).2.1]
  have m:=h.nt.may d hd
  by_cases q:d.Proto = 0
  · have:=m.d0 q; omega
  · have:=m.d1 q; omega
structure Fin (s:Nat) (L:List zz) (T0 T:List qk):Prop where
  tk : ∀ i,In s i → TK (tT T i)
  hear : ∀ j,In s j → ∀ y,y.Leaked = true → (y ∈ (tT T j).L ↔ ∃ x ∈ L,x.To = j ∧ told x (tT T0 x.From) y.P = some y)
def NtEq (s:Nat) (T T':List qk):Prop:=∀ i,In s i → nt_ (tT T i) = nt_ (tT T' i)
theorem gu {s:Nat} {L:List zz} {T U T' U':List qk} (hL : ∀ x ∈ L,In s x.From) (h:Fin s L U T) (h':Fin s L U' T') (hu' : ∀ i,In s i → TK (tT U' i)) (nt:NtEq s T T') {i:Int} {p:zy} {c:qj} (hi:In s i)
    (ih : ∀ k c',In s k → nb (tT U' k) p = some c' → c'.Dist < c.Dist → op (tT U' k) p = some c' → op (tT U k) p = some c') (ho:op (tT T i) p = some c):op (tT T' i) p = some c:=by
  obtain ⟨h1,h2⟩:=(eG (h.tk i hi) p c).1 ho
  refine (eG (h'.tk i hi) p c).2 ⟨by unfold nb at h1 ⊢; rw [← nt i hi]; exact h1,fun y hy hyl hyp=>Decidable.byContradiction fun hlt=>?_⟩
  obtain ⟨x,hx,hxt,ht⟩:=(h'.hear i hi y hyl).1 hy
  rw [hyp] at ht
  have hf:=hL x hx
  obtain ⟨_,_,_,c',k1,k2,k3,_⟩:=bB (hu' _ hf) ht
  have:=ih x.From c' hf k2 (by omega) k1
  have hy2:=(h.hear i hi y hyl).2 ⟨x,hx,hxt,by
    rw [hyp]
    rw [told_op] at ht ⊢
    obtain ⟨c2,q1,q2⟩:=ht
    rw [k1] at q1
    injection q1 with q1
    rw [← q1] at q2
    exact ⟨c',this,q2⟩⟩
  exact hlt (h2 y hy2 hyl hyp)
theorem op_ext {t t':qk} {p:zy} (h : ∀ c,op t p = some c ↔ op t' p = some c):op t p = op t' p:=by
  cases ho:op t p with
  | some c=>exact ((h c).1 ho).symm
  | none =>
    cases ho':op t' p with
    | none=>rfl
    | some c=>rw [(h c).2 ho'] at ho; cases ho
theorem tab_one {s:Nat} {L:List zz} {T U T' U':List qk} (hL : ∀ x ∈ L,In s x.From) (h:Fin s L U T) (h':Fin s L U' T') (nt:NtEq s T T') (hl:T.length = s) (hl':T'.length = s) (ho : ∀ k p,In s k → op (tT U k) p = op (tT U' k) p):T = T':=by
  have key : ∀ i,In s i → tT T i = tT T' i:=by
    intro i hi
    have:(tT T i).L = (tT T' i).L:=gE (k:=keyL) (h.tk i hi).srt (h'.tk i hi).srt fun y=>by
      cases hy:y.Leaked with
      | true =>
        rw [h.hear i hi y hy,h'.hear i hi y hy]
        constructor
        · rintro ⟨x,hx,e,ht⟩
          exact ⟨x,hx,e,by rw [← cV (ho _ _ (hL x hx))]; exact ht⟩
        · rintro ⟨x,hx,e,ht⟩
          exact ⟨x,hx,e,by rw [cV (ho _ _ (hL x hx))]; exact ht⟩
      | false =>
        have e1:y ∈ (tT T i).L ↔ y ∈ (nt_ (tT T i)).L:=by rw [mem_nt]; simp [hy]
        have e2:y ∈ (tT T' i).L ↔ y ∈ (nt_ (tT T' i)).L:=by rw [mem_nt]; simp [hy]
        rw [e1,e2,nt i hi]
    cases ha:tT T i; cases hb:tT T' i
    rw [ha,hb] at this
    simpa using this
  refine List.ext_getElem (by rw [hl,hl']) fun a h1 h2=>?_
  have:=key (a:Int) ⟨by omega,by omega⟩
  unfold tT at this
  rw [Int.toNat_natCast,List.getD_eq_getElem?_getD,List.getD_eq_getElem?_getD,List.getElem?_eq_getElem h1,List.getElem?_eq_getElem h2] at this
  exact this
theorem fin_one {s:Nat} {L:List zz} {T T':List qk} (hL : ∀ x ∈ L,In s x.From) (h:Fin s L T T) (h':Fin s L T' T') (nt:NtEq s T T') (hl:T.length = s) (hl':T'.length = s):T = T':=by
  have nt':NtEq s T' T:=fun i hi=>(nt i hi).symm
  have key : ∀ (d:Nat) (p:zy) (i:Int) (c:qj),In s i → nb (tT T i) p = some c → c.Dist.toNat < d → (op (tT T i) p = some c ↔ op (tT T' i) p = some c):=by
    intro d p
    induction d with
    | zero=>intro i c _ _ hd; omega
    | succ d ih =>
      intro i c hi hb hd
      have h0:=nb_dist (h.tk i hi) hb
      constructor
      · refine gu hL h h' h'.tk nt hi fun k c' hk q1 q2 q3=>?_
        have q4:nb (tT T k) p = some c':=by unfold nb at q1 ⊢; rw [nt k hk]; exact q1
        have:=nb_dist (h.tk k hk) q4
        exact (ih k c' hk q4 (by omega)).2 q3
      · refine gu hL h' h h.tk nt' hi fun k c' hk q1 q2 q3=>?_
        have:=nb_dist (h.tk k hk) q1
        exact (ih k c' hk q1 (by omega)).1 q3
  refine tab_one hL h h' nt hl hl' fun k p hk=>op_ext fun c=>⟨fun q=>?_,fun q=>?_⟩
  · have hb:=((eG (h.tk k hk) p c).1 q).1
    exact (key _ p k c hk hb (Nat.lt_succ_self _)).1 q
  · have hb:=((eG (h'.tk k hk) p c).1 q).1
    have hb2:nb (tT T k) p = some c:=by unfold nb at hb ⊢; rw [nt k hk]; exact hb
    exact (key _ p k c hk hb2 (Nat.lt_succ_self _)).2 q
theorem Done.fin {s k:Nat} {PS:List zy} {n m:TNet} (h:Done s PS k n m):Fin s n.L m.T m.T:=by
  have hno : ∀ j p,(⟨j,p⟩ : zw) ∉ m.Work:=fun j p=>by rw [h.work]; exact List.not_mem_nil
  refine ⟨fun i hi=>h.wf.tk hi,fun j hj y hy=>?_⟩
  rw [← h.L]
  constructor
  · intro hm
    obtain ⟨x,hx,e1,e2⟩:=(h.wf.tw j hj).cov y hm hy
    exact ⟨x,hx,e2,(h.dyn.U x.From y.P (h.wf.lk x hx).1 (hno _ _) x hx rfl y).1 ⟨by rw [e2]; exact hm,hy,e1.symm,rfl⟩⟩
  · rintro ⟨x,hx,e,ht⟩
    have:=((h.dyn.U x.From y.P (h.wf.lk x hx).1 (hno _ _) x hx rfl y).2 ht).1
    rwa [e] at this
def Marks (s:Nat) (T:List qk) (S:List (List qj)):Prop:=S.length = s ∧ ∀ i,In s i → Srt pk (sT S i) ∧ ∀ y,y ∈ sT S i ↔ bst (tT T i) y.P = some y
theorem marks_one {s:Nat} {T:List qk} {S S':List (List qj)} (h:Marks s T S) (h':Marks s T S'):S = S':=by
  refine List.ext_getElem (by rw [h.1,h'.1]) fun a h1 h2=>?_
  have hs:In s (a:Int):=⟨by omega,by have:=h.1; omega⟩
  have:sT S (a:Int) = sT S' (a:Int):=gE (k:=pk) (h.2 _ hs).1 (h'.2 _ hs).1 fun y=>by rw [(h.2 _ hs).2,(h'.2 _ hs).2]
  unfold sT at this
  rw [Int.toNat_natCast,List.getD_eq_getElem?_getD,List.getD_eq_getElem?_getD,List.getElem?_eq_getElem h1,List.getElem?_eq_getElem h2] at this
  exact this
theorem Done.marks {s k:Nat} {PS:List zy} {n m:TNet} (h:Done s PS k n m):Marks s m.T m.Sel:=by
  have hno : ∀ j p,(⟨j,p⟩ : zw) ∉ m.Work:=fun j p=>by rw [h.work]; exact List.not_mem_nil
  refine ⟨h.wf.S,fun i hi=>⟨h.wf.ss i hi,fun y=>?_⟩⟩
  have:=h.dyn.M i y.P hi (hno _ _) y
  simpa using this
theorem fT {t:qk} (h:TK t) : ∃ all,allO t = some all ∧ Srt pk all ∧ (∀ y,y ∈ all ↔ bst t y.P = some y) ∧ all.length ≤ 500:=by
  obtain ⟨liv,all,hc⟩:=countsK h
  have hsrt:Srt pk all:=List.Pairwise.imp (fun {a b} (q:PLt a b)=>by
    unfold PLt at q
    unfold pk
    rw [lexlt]
    by_cases h1:a.P.A < b.P.A
    · rw [if_pos h1]
    · rw [if_neg h1,if_neg (by omega),lexlt,if_pos (by omega)]) hc.al.srt
  refine ⟨all,hc.eq,hsrt,fun y=>?_,?_⟩
  · rcases eA hc.eq y.P with ⟨e,he,hp,h1⟩ | ⟨hno,h1⟩
    · have:bst t y.P = some e:=by unfold bst; rw [h1]
      rw [this]
      constructor
      · intro hy
        rw [all_one hc.al.srt he hy hp]
      · intro q
        injection q with q
        rw [← q]; exact he
    · have:bst t y.P = none:=by unfold bst; rw [h1]
      rw [this]
      constructor
      · intro hy
        exact absurd rfl (hno y hy)
      · intro q; cases q
  · have h1:=bV (cQ hsrt) hc.al.mem
    have h2:=hc.lv.len
    have h3:=h.len
    omega
section
variable {s k:Nat} {PS:List zy} {L:List zz}
theorem bst_F107 {t:qk} (h:TK t) {p:zy} {c:qj} (hb:bst t p = some c):F107 t p = some (c,true):=by
  rcases bst_eq h p with ⟨e,h1,h2⟩ | ⟨h1,_⟩
  · rw [h1] at hb
    injection hb with hb
    rw [h2,hb]
  · rw [h1] at hb; cases hb
theorem bst_P {t:qk} (h:TK t) {p:zy} {c:qj} (hb:bst t p = some c):c.P = p ∧ ∃ d ∈ t.L,d.P = p:=by
  obtain ⟨h1,⟨d,hd,hl⟩,_⟩:=(bR h p c).1 hb
  exact ⟨h1,d,hd,by rw [← (d9 hl (h.hop d hd)).1,h1]⟩
structure Hr (PS:List zy) (k:Nat) (L:List zz) (x:zz) (tk t0:qk) (row:List qj) (t:qk):Prop where
  tw:TW PS k L x.To t
  nt:nt_ t = nt_ t0
  hear : ∀ y,y.Leaked = true → (y ∈ t.L ↔ (y ∈ t0.L ∧ y.From ≠ x.From) ∨ ∃ c ∈ row,told x tk c.P = some y)
theorem sl_l1 {x:zz} {tk t0:qk} {row:List qj} (hs:s ≤ 6) (lk : ∀ x ∈ L,In s x.From) (h3:k ≤ 30) (h4:PS.length ≤ 30) (hx:x ∈ L) (htk:TK tk) (hps : ∀ y ∈ tk.L,y.P ∈ PS) (hrow : ∀ y,y ∈ row ↔ bst tk y.P = some y) (hl:row.length ≤ 900) :
    ∀ (fuel i:Nat) (t:qk),i ≤ row.length → row.length - i < fuel → Hr PS k L x tk t0 (row.take i) t → ∃ t',F19l1 x row fuel (i:Int) t = some ((row.length:Int),t') ∧ Hr PS k L x tk t0 row t'
  | 0,i,t,_,hf,_=>by omega
  | fuel + 1,i,t,hi,hf,h=>by
    unfold F19l1
    by_cases hlt:i < row.length
    · have hw:IntKind.i64.wrap ((i:Int) + 1) = ((i + 1:Nat):Int):=by rw [wi64 (by omega) (by omega)]; omega
      have hc:row[i] ∈ row:=List.getElem_mem hlt
      have htake:row.take (i + 1) = row.take i ++ [row[i]]:=by rw [List.take_add_one,List.getElem?_eq_getElem hlt]; rfl
      rw [decide_eq_true (show (i:Int) < (row.length:Int) by omega),cond_true,bo (List.getElem?_eq_getElem hlt),aD,hw]
      revert hc htake
      generalize row[i] = c
      intro hc htake
      have hb:=(hrow c).1 hc
      obtain ⟨d,b,e1,e2⟩:=gA (x:=x) htk (bst_F107 htk hb)
      rw [e1,aD]
      cases b with
      | false =>
        refine sl_l1 hs lk h3 h4 hx htk hps hrow hl fuel (i + 1) t (by omega) (by omega) ⟨h.tw,h.nt,fun y hy=>?_⟩
        rw [h.hear y hy,htake]
        refine or_congr_right ⟨fun ⟨c2,q1,q2⟩=>⟨c2,List.mem_append_left _ q1,q2⟩,fun ⟨c2,q1,q2⟩=>?_⟩
        rcases List.mem_append.1 q1 with q | q
        · exact ⟨c2,q,q2⟩
        · rw [List.mem_singleton.1 q,e2] at q2
          simp at q2
      | true =>
        have ht:told x tk c.P = some d:=by rw [e2]; simp
        obtain ⟨d1,d2,d3,_⟩:=bB htk ht
        have hf:=lk x hx
        have hlen:=h.tw.len hs lk h3 h4
        obtain ⟨t',k1,k2,k3,k4,k5⟩:=put_set (t:=t) h.tw.srt (by omega) (eW htk ht ⟨hf.1,by have:=hf.2; omega⟩)
        dsimp only
        rw [cond_true,k1,aD]
        have only : ∀ y,y ∈ t.L → y.Leaked = true → y.From = x.From → y.P = c.P → y = d:=by
          intro y hy h1 h2 h3
          rcases (h.hear y h1).1 hy with q | ⟨c2,_,q⟩
          · exact absurd h2 q.2
          · obtain ⟨_,_,q3,_⟩:=bB htk q
            rw [← q3,h3,ht] at q
            injection q with q
            exact q.symm
        have hnat:dD t'.L = dD t.L:=k5 _ fun z e=>by rw [(fg e).2.1,d1]; rfl
        have hmem : ∀ y,y ∈ t'.L ↔ y = d ∨ y ∈ t.L:=fun y=>by
          rw [k3]
          refine ⟨fun q=>q.imp_right fun q=>q.1,fun q=>?_⟩
          rcases q with q | q
          · exact .inl q
          · by_cases e:keyL y = keyL d
            · obtain ⟨e1,e2,e3,_⟩:=fg e
              exact .inl (only y q (by rw [e2,d1]) (by rw [e3,d2]) (by rw [e1,d3]))
            · exact .inr ⟨q,e⟩
        refine sl_l1 hs lk h3 h4 hx htk hps hrow hl fuel (i + 1) t' (by omega) (by omega) ⟨⟨fun y hy=>?_,fun y hy=>?_,k2,by rw [hnat]; exact h.tw.nat,fun a ha b hb2 hal hbl hf2 hP=>?_,fun y hy hyl=>?_⟩,by rw [← h.nt]; unfold nt_; rw [hnat],fun y hy=>?_⟩
        · rcases (hmem y).1 hy with rfl | q
          · exact eW htk ht ⟨hf.1,by have:=hf.2; omega⟩
          · exact h.tw.may y q
        · rcases (hmem y).1 hy with rfl | q
          · obtain ⟨_,d0,q1,q2⟩:=bst_P htk hb
            rw [d3,← q2]
            exact hps d0 q1
          · exact h.tw.ps y q
        · rcases (hmem a).1 ha with rfl | q <;> rcases (hmem b).1 hb2 with rfl | q'
          · rfl
          · exact (only b q' hbl (by rw [← hf2,d2]) (by rw [← hP,d3])).symm
          · exact only a q hal (by rw [hf2,d2]) (by rw [hP,d3])
          · exact h.tw.one a q b q' hal hbl hf2 hP
        · rcases (hmem y).1 hy with rfl | q
          · exact ⟨x,hx,d2.symm,rfl⟩
          · exact h.tw.cov y q hyl
        · rw [hmem,h.hear y hy,htake]
          constructor
          · rintro (rfl | q | ⟨c2,q1,q2⟩)
            · exact .inr ⟨c,by simp,ht⟩
            · exact .inl q
            · exact .inr ⟨c2,List.mem_append_left _ q1,q2⟩
          · rintro (q | ⟨c2,q1,q2⟩)
            · exact .inr (.inl q)
            · rcases List.mem_append.1 q1 with q | q
              · exact .inr (.inr ⟨c2,q,q2⟩)
              · rw [List.mem_singleton.1 q,ht] at q2
                injection q2 with q2
                exact .inl q2.symm
    · rw [decide_eq_false (show ¬ (i:Int) < (row.length:Int) by omega),cond_false]
      have:i = row.length:=by omega
      subst this
      rw [List.take_length] at h
      exact ⟨t,rfl,h⟩
structure Rnd (s:Nat) (PS:List zy) (k:Nat) (L:List zz) (T0 T1:List qk):Prop where
  len:T1.length = s
  tw : ∀ j,In s j → TW PS k L j (tT T1 j)
  nt:NtEq s T1 T0
  hear : ∀ j,In s j → ∀ y,y.Leaked = true → (y ∈ (tT T1 j).L ↔ ∃ x ∈ L,x.To = j ∧ told x (tT T0 x.From) y.P = some y)
structure Mid (s:Nat) (PS:List zy) (k:Nat) (L:List zz) (T0:List qk) (l:List zz) (T:List qk):Prop where
  len:T.length = s
  tw : ∀ j,In s j → TW PS k L j (tT T j)
  nt:NtEq s T T0
  hear : ∀ j,In s j → ∀ y,y.Leaked = true → (y ∈ (tT T j).L ↔ (∃ x ∈ l,x.To = j ∧ told x (tT T0 x.From) y.P = some y) ∨ (y ∈ (tT T0 j).L ∧ ∀ x ∈ l,x.To = j → x.From ≠ y.From))
theorem sl_l4 {n:TNet} {T0:List qk} {S:List (List qj)} (hs:s ≤ 6) (h3:k ≤ 30) (h4:PS.length ≤ 30) (lk : ∀ x ∈ n.L,In s x.From ∧ In s x.To ∧ x.From ≠ x.To) (ld:n.L.Pairwise fun a b=>¬ (a.From = b.From ∧ a.To = b.To)) (hll:n.L.length ≤ 900)
    (tw : ∀ j,In s j → TW PS k n.L j (tT T0 j)) (hS:S.length = s) (hrow : ∀ j,In s j → (∀ y,y ∈ sT S j ↔ bst (tT T0 j) y.P = some y) ∧ (sT S j).length ≤ 500) :
    ∀ (fuel i:Nat) (T:List qk),i ≤ n.L.length → n.L.length - i < fuel → Mid s PS k n.L T0 (n.L.take i) T → ∃ T1,F19l4 n S fuel (i:Int) T = some ((n.L.length:Int),T1) ∧ Rnd s PS k n.L T0 T1
  | 0,i,T,_,hf,_=>by omega
  | fuel + 1,i,T,hi,hf,h=>by
    unfold F19l4
    have lk1:=fun x hx=>(lk x hx).1
    by_cases hlt:i < n.L.length
    · have hw:IntKind.i64.wrap ((i:Int) + 1) = ((i + 1:Nat):Int):=by rw [wi64 (by omega) (by omega)]; omega
      have hx:n.L[i] ∈ n.L:=List.getElem_mem hlt
      have htake:n.L.take (i + 1) = n.L.take i ++ [n.L[i]]:=by rw [List.take_add_one,List.getElem?_eq_getElem hlt]; rfl
      have hsub : ∀ z ∈ n.L.take i,z ∈ n.L:=fun z hz=>List.mem_of_mem_take hz
      rw [decide_eq_true (show (i:Int) < (n.L.length:Int) by omega),cond_true,bo (List.getElem?_eq_getElem hlt),aD,hw]
      revert hx htake
      generalize n.L[i] = x
      intro hx htake
      obtain ⟨hf1,ht1,hne⟩:=lk x hx
      have wj:=h.tw x.To ht1
      have hlen:=wj.len hs lk1 h3 h4
      rw [cW h.len ht1,aD,dz _ (by omega),aD,sT_get hS hf1,aD]
      have hfil : ∀ y,y ∈ (tT T x.To).L.filter (fun z=>!F45 z x) ↔ y ∈ (tT T x.To).L ∧ ¬ (y.Leaked = true ∧ y.From = x.From):=fun y=>by
        rw [List.mem_filter]
        unfold F45 F46
        cases y.Leaked <;> simp
      have hnat:dD ((tT T x.To).L.filter (fun z=>!F45 z x)) = dD (tT T x.To).L:=by
        unfold dD
        rw [List.filter_filter]
        refine List.filter_congr fun c _=>?_
        unfold F45 F46
        cases c.Leaked <;> simp
      have tkk:=(tw x.From hf1).tk hs lk1 h3 h4
      obtain ⟨t',e1,e2⟩:=sl_l1 (k:=k) (PS:=PS) (L:=n.L) (x:=x) (tk:=tT T0 x.From) (t0:=tT T x.To) (row:=sT S x.From) hs lk1 h3 h4 hx tkk (tw x.From hf1).ps (hrow x.From hf1).1 (by have:=(hrow x.From hf1).2; omega) 1000 0 ⟨(tT T x.To).L.filter (fun z=>!F45 z x)⟩ (Nat.zero_le _) (by have:=(hrow x.From hf1).2; omega)
        ⟨⟨fun y hy=>wj.may y ((hfil y).1 hy).1,fun y hy=>wj.ps y ((hfil y).1 hy).1,wj.srt.sublist List.filter_sublist,by rw [hnat]; exact wj.nat,fun y hy z hz=>wj.one y ((hfil y).1 hy).1 z ((hfil z).1 hz).1,fun y hy=>wj.cov y ((hfil y).1 hy).1⟩,by unfold nt_; rw [hnat],fun y hy=>by
          dsimp only
          rw [hfil,List.take_zero]
          simp [hy]⟩
      have e1:F19l1 x (sT S x.From) 1000 0 ⟨(tT T x.To).L.filter (fun z=>!F45 z x)⟩ = _:=e1
      rw [e1,aD]
      have hset : ∀ j,In s j → tT (T.set x.To.toNat t') j = if j = x.To then t' else tT T j:=fun j hj=>gB h.len ht1 hj _
      refine sl_l4 hs h3 h4 lk ld hll tw hS hrow fuel (i + 1) (T.set x.To.toNat t') (by omega) (by omega) ⟨by simpa using h.len,fun j hj=>?_,fun j hj=>?_,fun j hj y hy=>?_⟩
      · rw [hset j hj]
        split
        · rename_i e; subst e; exact e2.tw
        · exact h.tw j hj
      · rw [hset j hj]
        split
        · rename_i e; subst e; rw [e2.nt]; exact h.nt x.To ht1
        · exact h.nt j hj
      · rw [hset j hj,htake]
        have tolds:(∃ c ∈ sT S x.From,told x (tT T0 x.From) c.P = some y) ↔ told x (tT T0 x.From) y.P = some y:=by
          constructor
          · rintro ⟨c,_,q⟩
            have:=(bB tkk q).2.2.1
            rwa [this]
          · intro q
            obtain ⟨_,_,_,c,q1,_⟩:=bB tkk q
            have q2:=(op_some.1 q1).1
            have q3:=(bst_P tkk q2).1
            exact ⟨c,((hrow x.From hf1).1 c).2 (by rw [q3]; exact q2),by rw [q3]; exact q⟩
        by_cases e:j = x.To
        · subst e
          rw [if_pos rfl,e2.hear y hy,tolds,h.hear x.To hj y hy]
          constructor
          · rintro (⟨⟨z,q1,q2,q3⟩ | ⟨q1,q2⟩,q4⟩ | q)
            · exact .inl ⟨z,List.mem_append_left _ q1,q2,q3⟩
            · refine .inr ⟨q1,fun z hz hzt=>?_⟩
              rcases List.mem_append.1 hz with q | q
              · exact q2 z q hzt
              · rw [List.mem_singleton.1 q]; exact fun q5=>q4 q5.symm
            · exact .inl ⟨x,by simp,rfl,q⟩
          · rintro (⟨z,q1,q2,q3⟩ | ⟨q1,q2⟩)
            · rcases List.mem_append.1 q1 with q | q
              · by_cases e5:z.From = x.From
                · have:=link_one ld (hsub z q) hx e5 q2
                  subst this
                  exact .inr q3
                · refine .inl ⟨.inl ⟨z,q,q2,q3⟩,?_⟩
                  rw [(bB ((tw z.From (lk1 z (hsub z q))).tk hs lk1 h3 h4) q3).2.1]
                  exact e5
              · rw [List.mem_singleton.1 q] at q3
                exact .inr q3
            · exact .inl ⟨.inr ⟨q1,fun z hz=>q2 z (List.mem_append_left _ hz)⟩,fun q5=>q2 x (by simp) rfl q5.symm⟩
        · rw [if_neg e,h.hear j hj y hy]
          refine or_congr ⟨fun ⟨z,q1,q2⟩=>⟨z,List.mem_append_left _ q1,q2⟩,fun ⟨z,q1,q2⟩=>?_⟩ (and_congr_right fun _=>⟨fun q z hz hzt=>?_,fun q z hz=>q z (List.mem_append_left _ hz)⟩)
          · rcases List.mem_append.1 q1 with q | q
            · exact ⟨z,q,q2⟩
            · rw [List.mem_singleton.1 q] at q2
              exact absurd q2.1.symm e
          · rcases List.mem_append.1 hz with q' | q'
            · exact q z q' hzt
            · rw [List.mem_singleton.1 q'] at hzt
              exact absurd hzt.symm e
    · rw [decide_eq_false (show ¬ (i:Int) < (n.L.length:Int) by omega),cond_false]
      have:i = n.L.length:=by omega
      subst this
      rw [List.take_length] at h
      refine ⟨T,rfl,h.len,h.tw,h.nt,fun j hj y hy=>?_⟩
      rw [h.hear j hj y hy]
      refine ⟨fun q=>q.resolve_right fun q2=>?_,.inl⟩
      obtain ⟨x,q3,q4,q5⟩:=(tw j hj).cov y q2.1 hy
      exact q2.2 x q3 q5 q4
theorem sl_l5 {T:List qk} (hs:s ≤ 6) (hT:T.length = s) (hk : ∀ j,In s j → TK (tT T j)) : ∀ (fuel i:Nat) (S:List (List qj)),S.length = s → i ≤ s → s - i < fuel → (∀ a:Nat,a < i → allO (tT T (a:Int)) = some (sT S (a:Int))) →
    ∃ out,F19l5 T fuel (i:Int) S = some ((s:Int),out) ∧ out.length = s ∧ ∀ a:Nat,a < s → allO (tT T (a:Int)) = some (sT out (a:Int))
  | 0,i,S,_,_,hf,_=>by omega
  | fuel + 1,i,S,h1,hi,hf,h=>by
    unfold F19l5
    rw [hT]
    by_cases hlt:i < s
    · have hI:In s (i:Int):=⟨by omega,by omega⟩
      obtain ⟨all,e,_⟩:=fT (hk _ hI)
      have hw:IntKind.i64.wrap ((i:Int) + 1) = ((i + 1:Nat):Int):=by rw [wi64 (by omega) (by omega)]; omega
      rw [decide_eq_true (show (i:Int) < (s:Int) by omega),cond_true,cW hT hI,aD,e,aD,sT_get h1 hI,aD,hw]
      refine sl_l5 hs hT hk fuel (i + 1) _ (by simpa using h1) (by omega) (by omega) fun a ha=>?_
      have haI:In s (a:Int):=⟨by omega,by omega⟩
      rw [gG h1 hI haI]
      split
      · rename_i q; rw [q,e]
      · rename_i q; exact h a (by omega)
    · have:i = s:=by omega
      subst this
      rw [decide_eq_false (show ¬ (i:Int) < (i:Int) by omega),cond_false]
      exact ⟨S,rfl,h1,h⟩
theorem sl_l6 {n:TNet} (hs:s ≤ 6) (h3:k ≤ 30) (h4:PS.length ≤ 30) (lk : ∀ x ∈ n.L,In s x.From ∧ In s x.To ∧ x.From ≠ x.To) (ld:n.L.Pairwise fun a b=>¬ (a.From = b.From ∧ a.To = b.To)) (hll:n.L.length ≤ 900) :
    ∀ (r fuel:Nat) (T:List qk) (S:List (List qj)),r ≤ 8 → r < fuel → T.length = s → (∀ j,In s j → TW PS k n.L j (tT T j)) → S.length = s →
    ∃ (Q:Nat → List qk) (S':List (List qj)),F19l6 n fuel ((8 - r:Nat):Int) T S = some (8,Q r,S') ∧ Q 0 = T ∧ (∀ j,j < r → Rnd s PS k n.L (Q j) (Q (j + 1))) ∧ (∀ j,r = j + 1 → Marks s (Q j) S')
  | 0,fuel + 1,T,S,_,_,hT,tw,hS=>⟨fun _=>T,S,rfl,rfl,fun j hj=>by omega,fun j hj=>by omega⟩
  | r + 1,fuel + 1,T,S,hr,hf,hT,tw,hS=>by
    unfold F19l6
    have lk1:=fun x hx=>(lk x hx).1
    have tk:=fun j hj=>(tw j hj).tk hs lk1 h3 h4
    rw [decide_eq_true (show ((8 - (r + 1):Nat):Int) < 8 by omega),cond_true]
    obtain ⟨out,e1,e2,e3⟩:=sl_l5 hs hT tk 1000 0 S hS (Nat.zero_le _) (by omega) (fun a ha=>by omega)
    have e1:F19l5 T 1000 0 S = _:=e1
    have mk:Marks s T out:=⟨e2,fun j hj=>by
      obtain ⟨all,k1,k2,k3,_⟩:=fT (tk j hj)
      have:=e3 j.toNat (by have:=hj.1; have:=hj.2; omega)
      rw [(mem_range hj).2,k1] at this
      injection this with this
      rw [← this]
      exact ⟨k2,k3⟩⟩
    have mlen : ∀ j,In s j → (sT out j).length ≤ 500:=fun j hj=>by
      obtain ⟨all,k1,_,_,k4⟩:=fT (tk j hj)
      have:=e3 j.toNat (by have:=hj.1; have:=hj.2; omega)
      rw [(mem_range hj).2,k1] at this
      injection this with this
      rw [← this]
      exact k4
    obtain ⟨T1,g1,g2⟩:=sl_l4 (T0:=T) hs h3 h4 lk ld hll tw e2 (fun j hj=>⟨(mk.2 j hj).2,mlen j hj⟩) 1000 0 T (Nat.zero_le _) (by omega) ⟨hT,tw,fun _ _=>rfl,fun j hj y hy=>by rw [List.take_zero]; simp⟩
    have g1:F19l4 n out 1000 0 T = _:=g1
    have hw:IntKind.i64.wrap (((8 - (r + 1):Nat):Int) + 1) = ((8 - r:Nat):Int):=by rw [wi64 (by omega) (by omega)]; omega
    rw [e1,aD,g1,aD,hw]
    obtain ⟨Q,S',q1,q2,q3,q4⟩:=sl_l6 hs h3 h4 lk ld hll r fuel T1 out (by omega) (by omega) g2.len g2.tw e2
    refine ⟨fun j=>match j with | 0=>T | j + 1=>Q j,S',q1,rfl,fun j hj=>?_,fun j hj=>?_⟩
    · cases j with
      | zero=>dsimp only; rw [q2]; exact g2
      | succ j=>exact q3 j (by omega)
    · have hj:j = r:=by omega
      subst hj
      cases j with
      | zero =>
        have:S' = out:=by
          have u:F19l6 n fuel ((8 - 0:Nat):Int) T1 out = some (8,Q 0,S'):=q1
          cases fuel with
          | zero=>omega
          | succ f =>
            unfold F19l6 at u
            rw [decide_eq_false (show ¬ ((8 - 0:Nat):Int) < 8 by omega),cond_false] at u
            injection u with u
            injection u with _ u
            injection u with _ u
            exact u.symm
        rw [this]
        exact mk
      | succ j=>exact q4 j rfl
end
section
variable {s k:Nat} {PS:List zy}
noncomputable def rk (s:Nat) (T:List qk) (i:Int) (p:zy):Nat:=((List.range s).filter fun (a:Nat)=>decide (dn (tT T (a:Int)) p < dn (tT T i) p)).length
theorem rk_le {T:List qk} (hs:s ≤ 6) {i:Int} (hi:In s i) (p:zy):rk s T i p ≤ 5:=by
  have:=bV (a:=i.toNat :: (List.range s).filter fun (a:Nat)=>decide (dn (tT T (a:Int)) p < dn (tT T i) p)) (b:=List.range s) (List.nodup_cons.2 ⟨fun q=>by
    have:=(List.mem_filter.1 q).2
    rw [(mem_range hi).2] at this
    simp at this,List.nodup_range.sublist List.filter_sublist⟩) fun x hx=>by
    rcases List.mem_cons.1 hx with rfl | hx
    · exact (mem_range hi).1
    · exact (List.mem_filter.1 hx).1
  rw [List.length_cons,List.length_range] at this
  unfold rk
  omega
theorem rk_lt {T:List qk} {i j:Int} (hj:In s j) {p:zy} (h:dn (tT T j) p < dn (tT T i) p):rk s T j p < rk s T i p:=by
  have:=bV (a:=j.toNat :: (List.range s).filter fun (a:Nat)=>decide (dn (tT T (a:Int)) p < dn (tT T j) p)) (b:=(List.range s).filter fun (a:Nat)=>decide (dn (tT T (a:Int)) p < dn (tT T i) p)) (List.nodup_cons.2 ⟨fun q=>by
    have:=(List.mem_filter.1 q).2
    rw [(mem_range hj).2] at this
    simp at this,List.nodup_range.sublist List.filter_sublist⟩) fun x hx=>by
    rw [List.mem_filter]
    rcases List.mem_cons.1 hx with rfl | hx
    · exact ⟨(mem_range hj).1,by rw [(mem_range hj).2]; exact decide_eq_true h⟩
    · obtain ⟨h1,h2⟩:=List.mem_filter.1 hx
      have:=of_decide_eq_true h2
      exact ⟨h1,decide_eq_true (by omega)⟩
  rw [List.length_cons] at this
  unfold rk
  omega
theorem nb_empty (p:zy):nb ⟨[]⟩ p = none ∧ op ⟨[]⟩ p = none:=by
  have h:TK ⟨[]⟩:=⟨fun x hx=>(by cases hx),.nil,Nat.zero_le _⟩
  have e:bst ⟨[]⟩ p = none:=by
    cases hb:bst ⟨[]⟩ p with
    | none=>rfl
    | some c =>
      obtain ⟨_,⟨d,q,_⟩,_⟩:=(bR h p c).1 hb
      cases q
  exact ⟨e,by unfold op; rw [e]⟩
theorem rounds_op {L:List zz} {P:Nat → List qk} {N:Nat} (lk : ∀ x ∈ L,In s x.From) (hf : ∀ j,j < N → Fin s L (P j) (P (j + 1))) (h0:P 0 = List.replicate s ⟨[]⟩) (nt : ∀ j,j < N → NtEq s (P (j + 1)) (P 1)) :
    ∀ r,r + 1 < N → ∀ i p,In s i → rk s (P 1) i p < r → op (tT (P r) i) p = op (tT (P (r + 1)) i) p
  | 0,_,i,p,_,h=>by omega
  | r + 1,hr,i,p,hi,h=>by
    have ih:=rounds_op lk hf h0 nt r (by omega)
    have tk0 : ∀ j,j ≤ N → ∀ l,In s l → TK (tT (P j) l):=fun j hj l hl=>by
      cases j with
      | zero=>rw [h0,rep_T]; exact ⟨fun x hx=>(by cases hx),.nil,Nat.zero_le _⟩
      | succ j=>exact (hf j (by omega)).tk l hl
    have nbd : ∀ j c l,In s l → j ≤ N → nb (tT (P j) l) p = some c → dn (tT (P 1) l) p = c.Dist:=fun j c l hl hj q=>by
      cases j with
      | zero=>rw [h0,rep_T,(nb_empty p).1] at q; cases q
      | succ j=>rw [← dL q]; exact (dn_nt p (nt j (by omega) l hl)).symm
    refine op_ext fun c=>⟨fun q=>?_,fun q=>?_⟩
    · have hc:=nbd (r + 1) c i hi (by omega) ((eG (tk0 (r + 1) (by omega) i hi) p c).1 q).1
      refine gu lk (hf r (by omega)) (hf (r + 1) (by omega)) (fun l hl=>tk0 (r + 1) (by omega) l hl) (fun l hl=>(nt r (by omega) l hl).trans (nt (r + 1) (by omega) l hl).symm) hi (fun l c' hl q1 q2 q3=>?_) q
      have hd:=nbd (r + 1) c' l hl (by omega) q1
      rw [ih l p hl (by have:=rk_lt (T:=P 1) (i:=i) hl (p:=p) (by omega); omega)]
      exact q3
    · have hc:=nbd (r + 2) c i hi (by omega) ((eG (tk0 (r + 2) (by omega) i hi) p c).1 q).1
      refine gu lk (hf (r + 1) (by omega)) (hf r (by omega)) (fun l hl=>tk0 r (by omega) l hl) (fun l hl=>(nt (r + 1) (by omega) l hl).trans (nt r (by omega) l hl).symm) hi (fun l c' hl q1 q2 q3=>?_) q
      have hd:=nbd r c' l hl (by omega) q1
      rw [← ih l p hl (by have:=rk_lt (T:=P 1) (i:=i) hl (p:=p) (by omega); omega)]
      exact q3
theorem sl_l7 {n:TNet} (hs:s ≤ 6) (hT:n.T.length = s) (hl : ∀ j,In s j → (tT n.T j).L.length ≤ 500) : ∀ (fuel i:Nat) (T:List qk),i ≤ s → s - i < fuel → T.length = s → (∀ a:Nat,a < s → tT T (a:Int) = if a < i then nt_ (tT n.T (a:Int)) else tT n.T (a:Int)) →
    ∃ T',F19l7 n fuel (i:Int) T = some ((s:Int),T') ∧ T'.length = s ∧ ∀ j,In s j → tT T' j = nt_ (tT n.T j)
  | 0,i,T,_,hf,_,_=>by omega
  | fuel + 1,i,T,hi,hf,h1,h=>by
    unfold F19l7
    rw [hT]
    by_cases hlt:i < s
    · have hI:In s (i:Int):=⟨by omega,by omega⟩
      have hw:IntKind.i64.wrap ((i:Int) + 1) = ((i + 1:Nat):Int):=by rw [wi64 (by omega) (by omega)]; omega
      have:=hl _ hI
      have e:(⟨List.filter (fun z=>!F43 z) (tT n.T (i:Int)).L⟩ : qk) = nt_ (tT n.T (i:Int)):=rfl
      rw [decide_eq_true (show (i:Int) < (s:Int) by omega),cond_true,cW h1 hI,aD,h i hlt,if_neg (by omega),dz _ (by omega),aD,hw,e]
      refine sl_l7 hs hT hl fuel (i + 1) _ (by omega) (by omega) (by simpa using h1) fun a ha=>?_
      have haI:In s (a:Int):=⟨by omega,by omega⟩
      rw [gB h1 hI haI,h a ha]
      by_cases q:a = i
      · subst q; rw [if_pos rfl,if_pos (by omega)]
      · rw [if_neg (by omega)]
        by_cases q2:a < i
        · rw [if_pos q2,if_pos (by omega)]
        · rw [if_neg q2,if_neg (by omega)]
    · have:i = s:=by omega
      subst this
      rw [decide_eq_false (show ¬ (i:Int) < (i:Int) by omega),cond_false]
      refine ⟨T,rfl,h1,fun j hj=>?_⟩
      have:=h j.toNat (by have:=hj.1; have:=hj.2; omega)
      rw [(mem_range hj).2,if_pos (by have:=hj.1; have:=hj.2; omega)] at this
      exact this
theorem nat_nat (l:List qj):dD (dD l) = dD l:=by
  unfold dD
  rw [List.filter_filter]
  simp
theorem sl_spec {n:TNet} (h:WF s PS k n) : ∃ m,F19 n = some m ∧ m.L = n.L ∧ m.Work = [] ∧ m.Over = n.Over ∧ m.T.length = s ∧ Fin s n.L m.T m.T ∧ NtEq s m.T n.T ∧ Marks s m.T m.Sel:=by
  have hs:=h.s1.2
  have lk1:=fun x hx=>(h.lk x hx).1
  have hll:=h.ll
  have h30:=h.k30
  obtain ⟨T0,e1,e2,e3⟩:=sl_l7 hs h.T (fun j hj=>by have:=h.len hj; omega) 1000 0 n.T (Nat.zero_le _) (by omega) h.T (fun a ha=>by rw [if_neg (by omega)])
  have tw0 : ∀ j,In s j → TW PS k n.L j (tT T0 j):=fun j hj=>by
    rw [e3 j hj]
    have w:=h.tw j hj
    exact ⟨fun x hx=>w.may x (mem_nt.1 hx).1,fun x hx=>w.ps x (mem_nt.1 hx).1,w.srt.sublist List.filter_sublist,by unfold nt_; rw [nat_nat]; exact w.nat,fun a ha b hb=>w.one a (mem_nt.1 ha).1 b (mem_nt.1 hb).1,fun y hy=>w.cov y (mem_nt.1 hy).1⟩
  obtain ⟨Q,S',q1,q2,q3,q4⟩:=sl_l6 (n:=n) hs h30 h.p30 h.lk h.ld (by omega) 8 1000 T0 n.Sel (by omega) (by omega) e2 tw0 h.S
  let P:Nat → List qk:=fun j=>match j with | 0=>List.replicate s ⟨[]⟩ | j + 1=>Q j
  have tkQ : ∀ j,j ≤ 8 → ∀ l,In s l → TK (tT (Q j) l):=fun j hj l hl=>by
    cases j with
    | zero=>rw [q2]; exact (tw0 l hl).tk hs lk1 h30 h.p30
    | succ j=>exact ((q3 j (by omega)).tw l hl).tk hs lk1 h30 h.p30
  have ntQ : ∀ j,j ≤ 8 → NtEq s (Q j) (Q 0):=by
    intro j
    induction j with
    | zero=>intro _ l _; rfl
    | succ j ih=>intro hj l hl; exact ((q3 j (by omega)).nt l hl).trans (ih (by omega) l hl)
  have hP : ∀ j,j < 9 → Fin s n.L (P j) (P (j + 1)):=fun j hj=>by
    cases j with
    | zero =>
      refine ⟨fun l hl=>tkQ 0 (by omega) l hl,fun l hl y hy=>?_⟩
      have:tT (P 1) l = nt_ (tT n.T l):=by show tT (Q 0) l = _; rw [q2]; exact e3 l hl
      rw [this,mem_nt]
      constructor
      · rintro ⟨_,q⟩
        rw [hy] at q; cases q
      · rintro ⟨x,hx,_,ht⟩
        have:tT (P 0) x.From = ⟨[]⟩:=rep_T s _
        rw [this] at ht
        obtain ⟨c,q,_⟩:=told_op.1 ht
        rw [(nb_empty _).2] at q
        cases q
    | succ j=>exact ⟨fun l hl=>tkQ (j + 1) (by omega) l hl,(q3 j (by omega)).hear⟩
  have ops : ∀ i p,In s i → op (tT (Q 5) i) p = op (tT (Q 6) i) p:=fun i p hi=>rounds_op (P:=P) (N:=9) lk1 hP rfl (fun j hj=>ntQ j (by omega)) 6 (by omega) i p hi (by have:=rk_le (T:=P 1) hs hi p; omega)
  have len : ∀ j,j < 8 → (Q (j + 1)).length = s:=fun j hj=>(q3 j hj).len
  have nt2 : ∀ a b,a ≤ 8 → b ≤ 8 → NtEq s (Q a) (Q b):=fun a b ha hb l hl=>(ntQ a ha l hl).trans (ntQ b hb l hl).symm
  have e67:Q 6 = Q 7:=tab_one lk1 (hP 6 (by omega)) (hP 7 (by omega)) (nt2 6 7 (by omega) (by omega)) (len 5 (by omega)) (len 6 (by omega)) fun l p hl=>ops l p hl
  have e78:Q 7 = Q 8:=tab_one lk1 (hP 7 (by omega)) (hP 8 (by omega)) (nt2 7 8 (by omega) (by omega)) (len 6 (by omega)) (len 7 (by omega)) fun l p hl=>by
    show op (tT (Q 6) l) p = op (tT (Q 7) l) p
    rw [e67]
  refine ⟨⟨Q 8,S',n.L,[],n.Over⟩,?_,rfl,rfl,rfl,len 7 (by omega),?_,fun l hl=>?_,?_⟩
  · unfold F19
    have e1:F19l7 n 1000 0 n.T = _:=e1
    have q1:F19l6 n 1000 0 T0 n.Sel = some (8,Q 8,S'):=q1
    rw [h.own,aD,e1,aD,q1,aD]
  · have:=hP 8 (by omega)
    have e:Fin s n.L (Q 7) (Q 8):=this
    rw [e78] at e
    exact e
  · dsimp only
    rw [ntQ 8 (by omega) l hl,q2,e3 l hl]
    unfold nt_
    rw [nat_nat]
  · dsimp only
    rw [← e78]
    exact q4 7 rfl
theorem done_one {n m m':TNet} (h:WF s PS k n) (hT:m.T.length = s) (hT':m'.T.length = s) (f:Fin s n.L m.T m.T) (f':Fin s n.L m'.T m'.T) (nt:NtEq s m.T n.T) (nt':NtEq s m'.T n.T) (mk:Marks s m.T m.Sel) (mk':Marks s m'.T m'.Sel) (hL:m.L = n.L) (hL':m'.L = n.L) (w:m.Work = []) (w':m'.Work = []) (o:m.Over = false) (o':m'.Over = false):m = m':=by
  have e:=fin_one (fun x hx=>(h.lk x hx).1) f f' (fun l hl=>(nt l hl).trans (nt' l hl).symm) hT hT'
  have e2:m.Sel = m'.Sel:=marks_one mk (by rw [e]; exact mk')
  obtain ⟨a1,a2,a3,a4,a5⟩:=m
  obtain ⟨b1,b2,b3,b4,b5⟩:=m'
  simp only at e e2 hL hL' w w' o o'
  rw [e,e2,hL,hL',w,w',o,o']
end
theorem eqf54_l1 {b:List qk} {h:qk → qk → Bool} (hh : ∀ c,h c c = true) : ∀ (rest pre:List qk),b = pre ++ rest → F54l1 b h pre.length rest = some (.ok ())
  | [],pre,_=>rfl
  | x :: rest,pre,he=>by
    rw [F54l1,bo (x:=x) (by rw [he]; simp),aD]
    dsimp only
    rw [hh x,cond_true,show pre.length + 1 = (pre ++ [x]).length by simp]
    exact eqf54_l1 hh rest (pre ++ [x]) (by rw [he]; simp)
theorem eqf54 {h:qk → qk → Bool} (hh : ∀ c,h c c = true) (l:List qk):F54 l l h = some true:=by
  unfold F54
  rw [show F54l1 l h 0 l = some (.ok ()) from eqf54_l1 hh l [] rfl,decide_eq_true rfl,cond_true]
  rfl
theorem eqf58_l1 {b:List (List qj)} {h:(List qj) → (List qj) → Bool} (hh : ∀ c,h c c = true) : ∀ (rest pre:List (List qj)),b = pre ++ rest → F58l1 b h pre.length rest = some (.ok ())
  | [],pre,_=>rfl
  | x :: rest,pre,he=>by
    rw [F58l1,bo (x:=x) (by rw [he]; simp),aD]
    dsimp only
    rw [hh x,cond_true,show pre.length + 1 = (pre ++ [x]).length by simp]
    exact eqf58_l1 hh rest (pre ++ [x]) (by rw [he]; simp)
theorem eqf58 {h:(List qj) → (List qj) → Bool} (hh : ∀ c,h c c = true) (l:List (List qj)):F58 l l h = some true:=by
  unfold F58
  rw [show F58l1 l h 0 l = some (.ok ()) from eqf58_l1 hh l [] rfl,decide_eq_true rfl,cond_true]
  rfl
theorem eqf60_l1 {b:List zz} {h:zz → zz → Bool} (hh : ∀ c,h c c = true) : ∀ (rest pre:List zz),b = pre ++ rest → F60l1 b h pre.length rest = some (.ok ())
  | [],pre,_=>rfl
  | x :: rest,pre,he=>by
    rw [F60l1,bo (x:=x) (by rw [he]; simp),aD]
    dsimp only
    rw [hh x,cond_true,show pre.length + 1 = (pre ++ [x]).length by simp]
    exact eqf60_l1 hh rest (pre ++ [x]) (by rw [he]; simp)
theorem eqf60 {h:zz → zz → Bool} (hh : ∀ c,h c c = true) (l:List zz):F60 l l h = some true:=by
  unfold F60
  rw [show F60l1 l h 0 l = some (.ok ()) from eqf60_l1 hh l [] rfl,decide_eq_true rfl,cond_true]
  rfl
theorem same_net {m:TNet} (h:m.Work = []):F21 m m = some true:=by
  unfold F21
  have e56 : ∀ l:List qj,F56 l l (fun y0 y1=>F57 y0 y1) = true:=fun l=>by rw [eq56,decide_eq_true rfl]
  rw [eqf54 (h:=fun y0 y1=>F55 y0 y1) (fun c=>e56 c.L),aD,eqf58 (h:=fun y0 y1=>F59 y0 y1) e56,aD,
    eqf60 (h:=fun y0 y1=>F61 y0 y1) (fun c=>by unfold F61; simp),aD,h]
  have e:F62 [] [] = some true:=rfl
  simp only [cond_true]
  rw [e,aD]
  simp
theorem with_l1 (l0:List zy) (p:zy) : ∀ l:List zy,F63l1 l0 p l = if p ∈ l then some (.error l0) else some (.ok ())
  | []=>rfl
  | x :: l=>by
    rw [F63l1,peq,with_l1 l0 p l]
    by_cases h:x = p
    · rw [decide_eq_true h,cond_true,if_pos (by rw [h]; exact List.mem_cons_self)]
    · rw [decide_eq_false h,cond_false]
      by_cases h2:p ∈ l
      · rw [if_pos h2,if_pos (List.mem_cons_of_mem _ h2)]
      · rw [if_neg h2,if_neg (by simp [h2,Ne.symm h])]
structure Pf (PS l:List zy):Prop where
  nd:l.Nodup
  sub : ∀ p ∈ l,p ∈ PS
theorem with_eq {PS l:List zy} (h:Pf PS l) (hp:PS.length ≤ 30) {p:zy} (hm:p ∈ PS) : ∃ l',F63 l p = some l' ∧ Pf PS l' ∧ p ∈ l' ∧ ∀ q ∈ l,q ∈ l':=by
  have hl:=bV h.nd h.sub
  unfold F63
  rw [with_l1]
  by_cases h2:p ∈ l
  · rw [if_pos h2]
    exact ⟨l,rfl,h,h2,fun _ q=>q⟩
  · rw [if_neg h2]
    refine ⟨l ++ [p],?_,⟨List.nodup_append.2 ⟨h.nd,(by simp),fun a ha b hb e=>?_⟩,fun q hq=>?_⟩,by simp,fun q hq=>List.mem_append_left _ hq⟩
    · show (bif decide (l.length < 1099511627776) then some (l ++ [p]) else none) = _
      rw [decide_eq_true (show l.length < 1099511627776 by omega),cond_true]
    · rw [List.mem_singleton.1 hb] at e
      rw [e] at ha
      exact h2 ha
    · rcases List.mem_append.1 hq with q1 | q1
      · exact h.sub q q1
      · rw [List.mem_singleton.1 q1]; exact hm
theorem pre_l3 {PS:List zy} (hp:PS.length ≤ 30) : ∀ (t:List qj) (l:List zy),Pf PS l → (∀ c ∈ t,c.P ∈ PS) → ∃ l',F22l3 l t = some l' ∧ Pf PS l'
  | [],l,h,_=>⟨l,rfl,h⟩
  | x :: t,l,h,hm=>by
    obtain ⟨l',e,h2,_⟩:=with_eq h hp (hm x List.mem_cons_self)
    rw [F22l3,e,aD]
    exact pre_l3 hp t l' h2 fun c hc=>hm c (List.mem_cons_of_mem _ hc)
theorem pre_l4 {PS:List zy} (hp:PS.length ≤ 30) : ∀ (T:List qk) (l:List zy),Pf PS l → (∀ t ∈ T,∀ c ∈ t.L,c.P ∈ PS) → ∃ l',F22l4 l T = some l' ∧ Pf PS l'
  | [],l,h,_=>⟨l,rfl,h⟩
  | x :: t,l,h,hm=>by
    obtain ⟨l',e,h2⟩:=pre_l3 hp x.L l h (hm x List.mem_cons_self)
    rw [F22l4,e,aD]
    exact pre_l4 hp t l' h2 fun c hc=>hm c (List.mem_cons_of_mem _ hc)
theorem pre_l2 {PS:List zy} (hp:PS.length ≤ 30) : ∀ (t:List zw) (l:List zy),Pf PS l → (∀ c ∈ t,c.P ∈ PS) → ∃ l',F22l2 l t = some l' ∧ Pf PS l' ∧ (∀ q ∈ l,q ∈ l') ∧ ∀ c ∈ t,c.P ∈ l'
  | [],l,h,_=>⟨l,rfl,h,fun _ q=>q,fun c hc=>by cases hc⟩
  | x :: t,l,h,hm=>by
    obtain ⟨l',e,h2,h3,h4⟩:=with_eq h hp (hm x List.mem_cons_self)
    obtain ⟨l2,e2,k1,k2,k3⟩:=pre_l2 hp t l' h2 fun c hc=>hm c (List.mem_cons_of_mem _ hc)
    rw [F22l2,e,aD]
    refine ⟨l2,e2,k1,fun q hq=>k2 q (h4 q hq),fun c hc=>?_⟩
    rcases List.mem_cons.1 hc with rfl | hc
    · exact k2 _ h3
    · exact k3 c hc
theorem prefixes_spec {s k:Nat} {PS:List zy} {n:TNet} (h:WF s PS k n) : ∃ QS:List zy,F22 n = some (QS.length:Int) ∧ QS.length ≤ 30 ∧ ∀ w ∈ n.Work,w.P ∈ QS:=by
  have hT : ∀ t ∈ n.T,∀ c ∈ t.L,c.P ∈ PS:=fun t ht c hc=>by
    obtain ⟨a,ha,rfl⟩:=List.getElem_of_mem ht
    have hs:In s (a:Int):=⟨by omega,by have:=h.T; omega⟩
    refine (h.tw _ hs).ps c ?_
    unfold tT
    rw [Int.toNat_natCast,List.getD_eq_getElem?_getD,List.getElem?_eq_getElem ha]
    exact hc
  obtain ⟨l,e1,h1⟩:=pre_l4 h.p30 n.T [] ⟨.nil,fun p q=>by cases q⟩ hT
  obtain ⟨l',e2,h2,_,h3⟩:=pre_l2 h.p30 n.Work l h1 fun w hw=>(h.wk w hw).2
  unfold F22
  rw [e1,aD,e2,aD]
  exact ⟨l',rfl,Nat.le_trans (bV h2.nd h2.sub) h.p30,h3⟩
theorem leakEnd_true (size0:Int) (script1:List TAct) (picks2:TS) {p q:Prop} (_:p) (_:q) (_:(∀ y ∈ picks2.e0,InK .i64 y) ∧ (∀ y ∈ picks2.e1,InK .i64 y)):F5 size0 script1 picks2 = some true:=by
  unfold F5
  obtain ⟨b,e,h⟩:=built_net size0 script1
  rw [e,aD,l8_alive,aD]
  have alive : ∀ c:Bool,(bif c then some true else some true) = some true:=fun c=>by cases c <;> rfl
  cases hr:b.2 with
  | false=>rw [cond_false]
  | true =>
    obtain ⟨s,PS,k,h1,h2⟩:=h hr
    obtain ⟨QS,p1,p2,p3⟩:=prefixes_spec h1
    have hw:=h1.wq p3
    have h6:=h1.s1.2
    have hmul:s * QS.length ≤ 6 * QS.length:=Nat.mul_le_mul_right _ h6
    obtain ⟨m,c,k1,k2,k3⟩:=gX QS h1 h2 p3 (by omega) picks2.e0
    obtain ⟨m',c',g1,g2,g3⟩:=gX QS h1 h2 p3 (by omega) picks2.e1
    obtain ⟨v,v1,v2,v3,v4,v5,v6,v7,v8⟩:=sl_spec h1
    have em:m = m':=done_one h1 k3.wf.T g3.wf.T k3.fin g3.fin k3.nt g3.nt k3.marks g3.marks k3.L g3.L k3.work g3.work k3.wf.ov g3.wf.ov
    have ev:m = v:=done_one h1 k3.wf.T v5 k3.fin v6 k3.nt v7 k3.marks v8 k3.L v2 k3.work v3 k3.wf.ov (by rw [v4]; exact h1.ov)
    subst em
    have hwr:IntKind.i64.wrap (400 * (QS.length:Int)) = ((400 * QS.length:Nat):Int):=by rw [wi64 (by omega) (by omega)]; omega
    rw [cond_true,k1,aD,g1,aD,p1,aD,hwr]
    dsimp only
    rw [decide_eq_false (show ¬ ((400 * QS.length:Nat):Int) < (c:Int) by omega),cond_false,decide_eq_false (show ¬ ((400 * QS.length:Nat):Int) < (c':Int) by omega),cond_false,k3.work,k3.wf.ov]
    have z:decide ((0:Int) < IntKind.i64.wrap ((([]:List zw).length:Int) + (([]:List zw).length:Int))) = false:=by decide
    rw [z,cond_false,cond_false,cond_false,v1,aD,aD,cond_true,same_net k3.work,aD,cond_true,← ev,same_net k3.work,aD,alive,alive]
section
variable {P:Program} {n k0:Nat} {Q:Exit → St → Prop} {st:St}
theorem W.post {ac:AC} (h:W P n k0 ac (fun e s=>∃ s',Conv k0 s s' ∧ Q e s') st):W P n k0 ac Q st:=by
 intro c hcc rr ds m ok a w hk hS
 refine wpIn_mono (h c hcc rr ds m ok a w hk hS) ?_
 rintro e a2 w2 ⟨st2,m2,hp2⟩
 obtain ⟨s',hc,hq⟩:=hp2.q
 obtain ⟨m',h1,h2,h3,h4⟩:=hc n ds m2 ok a2 w2 hp2.le hp2.sim
 exact ⟨s',m',hq,h1,hp2.step.trans h2,hp2.mon.trans h3 fun _ h=>h,h4⟩
end
def TabOk (P:Program) (F:List (Nat × (Nat × List RV × AC))):Prop:=∀ f x,lk F f = some x → fnInfo P f = some x
theorem TabOk.nil {P:Program}:TabOk P []:=fun f x h=>by cases h
theorem TabOk.cons {P:Program} {K:Nat} {x:Nat × List RV × AC} {F:List (Nat × (Nat × List RV × AC))} (h:fnInfo P K = some x) (k:TabOk P F):TabOk P ((K,x) :: F):=fun f y hy=>by
 unfold lk at hy
 cases hb:Nat.beq f K with
 | true =>
  rw [hb,cond_true] at hy
  injection hy with hy
  rw [Nat.eq_of_beq_eq_true hb,h,hy]
 | false =>
  rw [hb,cond_false] at hy
  exact k f y hy
theorem RepObj.trunc {w:World} {ok:Nat → Prop} {D:AId → Prop} {m:AId → Option Blk} {sz ty q:Nat} {es:List (List PVal)} {B:Blk} (h:RepObj w ok D m (.row sz ty es) B):RepObj w ok D m (.row sz ty (es.take q)) B:=by
 cases B with
 | nil=>exact ⟨by rw [h.1]; simp,h.2⟩
 | «at» b tot =>
  obtain ⟨vs,h1,h2,h3,h4,h5,h6,h7⟩:=h
  refine ⟨vs,h1,h2,by simp only [List.length_take]; omega,h4,h5,fun e he=>h6 e (List.mem_of_mem_take he),fun i j e p he hp=>h7 i j e p (bW he) hp⟩
theorem Conv.trunc {k0:Nat} {env:List (Nat × PVal)} {heap zj:List (AId × AObj)} {next id sz ty:Nat} {es es':List (List PVal)} (q:Nat) (ho:heap.lookup id = some (.row sz ty es)) (he:es.take q = es') (hh:setH id (.row sz ty es') heap = zj) :
  Conv k0 ⟨env,heap,next⟩ ⟨env,zj,next⟩:=by
 subst he
 intro n ds m ok a w hkn hS
 refine ⟨m,⟨?_,hS.tmp,hS.df,hS.sz⟩,Step.refl m w,fun i hi=>.inl rfl,hkn⟩
 have:=hS.hp.weakObj (id:=id) ho (o':=.row sz ty (es.take q)) (fun B' _ hob=>hob.trunc)
 show SimH _ _ _ (fun i=>zj.lookup i) w
 rw [← hh,cM]
 exact this
theorem WK.trunc {P:Program} {n k0:Nat} {Q:Exit → St → Prop} {r:List AC} {env:List (Nat × PVal)} {heap zj:List (AId × AObj)} {next id sz ty:Nat} {es es':List (List PVal)} (q:Nat) (ho:heap.lookup id = some (.row sz ty es)) (he:es.take q = es') (hr:r ≠ []) (hh:setH id (.row sz ty es') heap = zj)
  (k:WK P n k0 r Q ⟨env,zj,next⟩):WK P n k0 r Q ⟨env,heap,next⟩:=bz (Conv.trunc q ho he hh) k hr
theorem WK.truncT {α:Type} {c:α → List PVal} {P:Program} {n k0:Nat} {Q:Exit → St → Prop} {r:List AC} {env:List (Nat × PVal)} {heap zj:List (AId × AObj)} {next id sz ty:Nat} {L:List α} (q:Nat) (ho:heap.lookup id = some (.row sz ty (L.map c))) (hr:r ≠ []) (hh:setH id (.row sz ty ((L.take q).map c)) heap = zj)
  (k:WK P n k0 r Q ⟨env,zj,next⟩):WK P n k0 r Q ⟨env,heap,next⟩:=bz (Conv.trunc q ho (by rw [List.map_take]) hh) k hr
theorem ky {α:Type} {L:List α} {i:Int} {x:α} (h:getI L i = some x):0 ≤ i ∧ i = (i.toNat:Int) ∧ i.toNat < L.length ∧ L[i.toNat]? = some x:=by
 unfold getI at h
 split at h
 ·rename_i h0
  exact ⟨h0,(Int.toNat_of_nonneg h0).symm,(List.getElem?_eq_some_iff.1 h).1,h⟩
 ·cases h
theorem kw {α:Type} {b:Bool} {x y r:α} (hb:b = false) (h:(bif b then x else y) = r):y = r:=by subst hb; exact h
theorem kz {α:Type} {b:Bool} {x y r:α} (hb:b = true) (h:(bif b then x else y) = r):x = r:=by subst hb; exact h
section
variable {α:Type} {c:α → List PVal} {L:List α} {h:Heap} {nx id sz ty j off o' len s1 k m:Nat} {ik:IntKind} {i:Int} {cs:List PVal}
end
theorem fq {α:Type} {c:α → List PVal} {x0:α} {h:Heap} {nx sz by_ n:Nat} {ty:TypeId} {zs:List PVal} {k1 k2:IntKind} {l c':Int} (hl:l = (n:Int)) (hc:c' = (n:Int)) (hz:zs = c x0) (hb:by_ * n ≤ 281474976710656) (hm:n ≤ 9223372036854775807) :
  core (.mkslice sz ty by_ zs) [.int k1 l,.int k2 c'] h nx = some { v:=.own nx sz 0 n,wh:=[(nx,some (.row sz ty ((List.replicate n x0).map c)))],nw:=[nx] }:=by
 subst hl hc hz
 simp only [core]
 rw [if_pos ⟨trivial,by omega,by simpa using hb,by simpa [maxLen] using hm⟩]
 simp
theorem g9 {α:Type} {c:α → List PVal} {h:Heap} {nx id sz:Nat} {ty:TypeId} {L X:List α} {x:PVal} {rh:List AId} (ho:h id = some (.row sz ty (L.map c))) (he:elemsU h L.length x = some (sz,(X.map c).take L.length,rh)) (h0:0 < L.length) :
  core (.copy sz) [.own id sz 0 L.length,x] h nx = some { v:=.int .i64 ((X.take L.length).length:Nat),rh:=id :: rh,wh:=[(id,some (.row sz ty ((gZ L X).map c)))] }:=by
 simp only [core,ho,he]
 rw [if_pos ⟨trivial,trivial,trivial,by simp,h0⟩]
 simp [gZ,overE,List.map_take,List.map_drop]
theorem core_clearT {α:Type} {c:α → List PVal} {x0:α} {h:Heap} {nx id sz lo m:Nat} {ty:TypeId} {L:List α} {zs:List PVal} (ho:h id = some (.row sz ty (L.map c))) (hlo:lo + m = L.length) (hm:0 < m) (hmm:m = L.length - lo) (hz:zs = c x0) :
  core (.clear sz zs) [.own id sz lo m] h nx = some { v:=.hole,rh:=[id],wh:=[(id,some (.row sz ty ((L.take lo ++ List.replicate (L.length - lo) x0).map c)))] }:=by
 subst hz
 simp only [core,ho]
 rw [if_pos ⟨trivial,trivial,by simp; omega,hm⟩]
 have:(L.map c).drop (lo + m) = []:=by rw [List.drop_eq_nil_iff]; simp; omega
 simp [overE,this,List.map_take,← hmm]
theorem core_remT {h:Heap} {nx:AId} {ek:EK} {k:IntKind} {a b:Int} (hb:b ≠ 0):core (.bin .rem ek) [.int k a,.int k b] h nx = some { v:=.int k (Int.tmod a b) }:=by
 simp [core,coreBin,binV,binInt,hb]
theorem core_sliceRlo {α:Type} {c:α → List PVal} {h:Heap} {nx id sz n n':Nat} {ty:TypeId} {L:List α} {ik:IntKind} {i:Int} (lo:Nat) (ho:h id = some (.row sz ty (L.map c))) (hi:i = (lo:Int)) (hn:lo ≤ n) (hn':n - lo = n') :
  core (.slice sz true false) [.own id sz 0 n,.int ik i] h nx = some { v:=.own id sz lo n',rh:=[id] }:=by
 subst hi hn'
 simp only [core,ho,sbnd]
 rw [if_pos ⟨by omega,by omega⟩]
 simp
theorem g8 {α:Type} {c:α → List PVal} {h:Heap} {nx id sz m:Nat} {ty:TypeId} {L:List α} {ik:IntKind} {i:Int} (ho:h id = some (.row sz ty (L.map c))) (h0:0 ≤ i) (h1:i ≤ (m:Int)) (hm:m ≤ L.length) :
  core (.slice sz false true) [.own id sz 0 m,.int ik i] h nx = some { v:=.own id sz 0 (L.take i.toNat).length,rh:=[id] }:=by
 have e:(L.take i.toNat).length = i.toNat:=by rw [List.length_take]; omega
 rw [e]
 simp only [core,ho,sbnd]
 rw [if_pos ⟨h0,h1⟩]
 simp
theorem cpy_len {α:Type} (L X:List α):(gZ L X).length = L.length:=by
 simp only [gZ,List.length_append,List.length_take,List.length_drop]
 omega
section
variable {w w':World} {ok:Nat → Prop} {D:AId → Prop} {m:AId → Option Blk}
theorem Rep.other {c:Bool} {p:PVal} {v:Value} (h:Rep w ok D m c p v) (hc : ∀ a u,w.cell? a = some u → w'.cell? a = some u):Rep w' ok D m c p v :=
 h.mono (fun a u _ h=>hc a u h) (fun _ h _=>h) (fun h=>h) (fun _ _ _ h=>h) (fun _ _ _ _=>.inl rfl)
theorem RepObj.other {o:AObj} {B:Blk} (h:RepObj w ok D m o B) (hc : ∀ a u,w.cell? a = some u → w'.cell? a = some u) (hB : ∀ b t,B = .at b t → w'.heap[b]? = w.heap[b]?):RepObj w' ok D m o B:=by
 cases o with
 | box cs =>
  cases B with
  | nil=>exact h
  | «at» b t =>
   obtain ⟨vs,ty,h1,h2,h3⟩:=h
   refine ⟨vs,ty,(hB b t rfl).trans h1,h2,fun i p hp=>?_⟩
   obtain ⟨v,h4,h5,h6⟩:=h3 i p hp
   exact ⟨v,h4,h5,h6.other hc⟩
 | row sz ty es =>
  cases B with
  | nil=>exact h
  | «at» b t =>
   obtain ⟨vs,h1,h2,h3,h3',h4,h5,h6⟩:=h
   refine ⟨vs,(hB b t rfl).trans h1,h2,h3,h3',h4,h5,fun i j e p he hp=>?_⟩
   obtain ⟨v,h7,h8,h9⟩:=h6 i j e p he hp
   exact ⟨v,h7,h8,h9.other hc⟩
 | full sz ty es =>
  cases B with
  | nil=>exact h
  | «at» b t =>
   obtain ⟨vs,h1,h2,h3,h3',h4,h5,h6⟩:=h
   refine ⟨vs,(hB b t rfl).trans h1,h2,h3,h3',h4,h5,fun i j e p he hp=>?_⟩
   rcases h6 i j e p he hp with h7 | ⟨v,h7,h8,h9⟩
   ·exact .inl h7
   ·exact .inr ⟨v,h7,h8,h9.other hc⟩
 | mp kvs =>
  cases B with
  | nil=>exact h
  | «at» b t =>
   obtain ⟨ents,clock,h1,h2,h3⟩:=h
   refine ⟨ents,clock,(hB b t rfl).trans h1,h2,fun i k x hkx=>?_⟩
   obtain ⟨e,h4,h5,h6⟩:=h3 i k x hkx
   exact ⟨e,h4,h5.other hc,h6.other hc⟩
theorem SimH.other {heap:AId → Option AObj} (h:SimH D m ok heap w) (hc : ∀ a u,w.cell? a = some u → w'.cell? a = some u) (hsz:w.heap.size ≤ w'.heap.size) (hB : ∀ id b t,m id = some (.at b t) → w'.heap[b]? = w.heap[b]?)
  (hg : ∀ x ∈ Gs,w'.heap[x.1]? = w.heap[x.1]?):SimH D m ok heap w' :=
 ⟨fun id o ho=>by
  obtain ⟨B,h1,h2⟩:=h.obj id o ho
  exact ⟨B,h1,h2.other hc fun b t e=>by subst e; exact hB id b t h1⟩,h.dom,h.inj,fun id b t e=>Nat.lt_of_lt_of_le (h.lt id b t e) hsz,h.okm,fun b hb=>h.fresh b (Nat.le_trans hsz hb),
  fun x hx=>by
   obtain ⟨h1,o,h2,h3⟩:=h.glob x hx
   exact ⟨h1,o,(hg x hx).trans h2,h3⟩⟩
def Ext (w w':World):Prop:=Step (fun _=>none) w (fun _=>none) w'
theorem Ext.of {m':AId → Option Blk} (h:Step (fun _=>none) w m' w'):Ext w w':=⟨h.os,h.tape,h.output,h.size,h.keep,fun _ _ _ e=>by cases e⟩
theorem Ext.refl (w:World):Ext w w:=Step.refl _ w
theorem Ext.trans {w2:World} (h:Ext w w') (k:Ext w' w2):Ext w w2:=Step.trans h k
theorem Ext.heap (h:Ext w w') {b:Nat} (hb:b < w.heap.size):w'.heap[b]? = w.heap[b]?:=h.keep b hb fun _ _ e=>by cases e
theorem Ext.at (h:Ext w w') {b:Nat} {o:Obj} (hb:w.heap[b]? = some o):w'.heap[b]? = some o:=(h.heap (Array.getElem?_eq_some_iff.1 hb).1).trans hb
theorem Ext.step (h:Ext w w') (m:AId → Option Blk):Step m w m w':=⟨h.os,h.tape,h.output,h.size,fun b hb _=>h.heap hb,fun id b t e=>.inl ⟨id,t,e⟩⟩
theorem Ext.cell (h:Ext w w') {a:Addr} {u:Value} (hc:w.cell? a = some u):w'.cell? a = some u:=by rw [dw (h.heap (fu hc))]; exact hc
theorem Ext.alloc (w:World) (o:Obj):Ext w (w.alloc o) :=
 ⟨rfl,rfl,rfl,by rw [World.size_alloc]; omega,fun b hb _=>by show (w.heap.push o)[b]? = _; rw [Array.getElem?_push_lt hb,Array.getElem?_eq_getElem hb],fun _ _ _ e=>by cases e⟩
theorem SimH.ext {heap:AId → Option AObj} (h:SimH D m ok heap w) (hx:Ext w w'):SimH D m ok heap w' :=
 h.other (fun _ _ hc=>hx.cell hc) hx.size (fun id b t e=>hx.heap (h.lt id b t e)) fun x hg=>by
  obtain ⟨_,o,h2,_⟩:=h.glob x hg
  exact hx.heap (Array.getElem?_eq_some_iff.1 h2).1
theorem d5 {l:Nat} {o o':Obj} (hl:w.heap[l]? = some o) (ho:o.isCells = false) {a:Addr} {u:Value} (hc:w.cell? a = some u):(w.putObj l o').cell? a = some u:=by
 obtain ⟨o2,h1,h2⟩:=cells_of_cell hc
 have hne:a.block ≠ l:=by
  rintro e
  rw [e,hl] at h1
  injection h1 with h1
  rw [h1,h2] at ho
  cases ho
 rw [dw (World.putObj_heap_other hne)]
 exact hc
theorem SimH.putObj {heap:AId → Option AObj} (h:SimH D m ok heap w) {l:Nat} {o o':Obj} (hl:w.heap[l]? = some o) (ho:o.isCells = false) (hm : ∀ id t,m id ≠ some (.at l t)) (hg : ∀ x ∈ Gs,x.1 ≠ l):SimH D m ok heap (w.putObj l o') :=
 h.other (fun _ _ hc=>d5 hl ho hc) (by rw [World.putObj_size]; exact Nat.le_refl _) (fun id b t e=>World.putObj_heap_other fun e2=>hm id t (by rw [← e2]; exact e)) fun x hx=>World.putObj_heap_other (hg x hx)
theorem Step.putObj {m':AId → Option Blk} {l:Nat} (h:Step m w m' w') (hl:w.heap.size ≤ l) (o:Obj):Step m w m' (w'.putObj l o) :=
 ⟨h.os,h.tape,h.output,by rw [World.putObj_size]; exact h.size,fun b hb hn=>(World.putObj_heap_other (by omega)).trans (h.keep b hb hn),h.own⟩
theorem Step.avoid {m':AId → Option Blk} {b:Nat} (h:Step m w m' w') (hb:b < w.heap.size) (hn : ∀ id t,m id ≠ some (.at b t)) : ∀ id t,m' id ≠ some (.at b t):=by
 intro id t e
 rcases h.own id b t e with ⟨i,t0,h0⟩ | hge
 ·exact hn i t0 h0
 ·omega
end
structure Keeps (A:Nat → Prop) (w w':World):Prop where
 blk : ∀ b,A b → w'.heap[b]? = w.heap[b]?
 size:w.heap.size ≤ w'.heap.size
 gs : ∀ x ∈ Gs,∃ o,w'.heap[x.1]? = some o ∧ x.2 o
def IterOk (P:Program) (gf:FuncId) (caps xs:List PVal):Prop :=
 Enters P gf ∧ ∀ (A:Nat → Prop) (w:World) (lb:List Value),(∀ b,A b → b < w.heap.size) → (∀ x ∈ Gs,∃ o,w.heap[x.1]? = some o ∧ x.2 o) → Reps w A (fun _=>False) (fun _=>none) false caps lb →
  ∀ (l:Nat) (J:Nat → (Nat → Prop) → World → Prop),
   (∀ (k:Nat) (x:PVal) (B:Nat → Prop) (Wp W:World) (v:Value),xs[k]? = some x → J k B Wp → Ext Wp W → Rep W (fun b=>B b ∨ Wp.heap.size ≤ b) (fun _=>False) (fun _=>none) false x v →
    YieldAt Fence.wide 0 P l #[v] W fun e W'=>e = .returned (.bool true) ∧ J (k + 1) (fun b=>(B b ∨ Wp.heap.size ≤ b) ∧ b < W.heap.size) W' ∧ Keeps (fun b=>(B b ∨ Wp.heap.size ≤ b) ∧ b < W.heap.size) W W') →
   J 0 A w →
   CallsIn Fence.wide 0 P gf (#[.func (.yield l) #[] #[]] ++ lb.toArray) w fun e W'=>∃ v B Wp,e = .returned v ∧ J xs.length B Wp ∧ Ext Wp W'
abbrev markD (D:Nat):Deferred:={ target:=.collected D,args:=#[] }
theorem range_wp {P:Program} {n:Nat} {tg p:Nat} {assign body:Code} {aca acb:AC} {st:St} {m:AId → Option Blk} {ok:Nat → Prop} {a:Act} {w:World} {gf:FuncId} {caps xs:List PVal} {Q:Exit → Act → World → Prop}
  (hS:Sim n [] (· < st.next) m ok st.e st.h a w) (hg:st.env.lookup tg = some (.fn gf [] caps)) (hcl:PVal.closed.go caps = true) (hI:IterOk P gf caps xs) (hac:transC P assign = some aca) (hbc:transC P body = some acb) (hp:p < n)
  (I:Nat → List (AId × AObj) → Nat → Prop) (h0:I 0 st.heap st.next) (hle : ∀ k h nx,I k h nx → st.next ≤ nx)
  (hround : ∀ k h nx x,I k h nx → xs[k]? = some x → W P n st.next aca (AThen (W P n st.next acb (fun e s=>e = .normal ∧ I (k + 1) s.heap s.next)) (fun _ _=>False)) { env:=(p,x) :: st.env,heap:=h,next:=nx })
  (hQ : ∀ h nx (m':AId → Option Blk) (W:World) (D:Nat),I xs.length h nx → Sim n [markD D] (· < nx) m' ok st.e (fun i=>h.lookup i) { a with defers:=[markD D] } W → Step m w m' W → Mon (· < st.next) m m' → w.heap.size ≤ D → W.heap[D]? = some (.deferred (some [])) → (∀ id t,m' id ≠ some (.at D t)) → Q .normal { a with defers:=[markD D] } W) :
  (Code.rangeFunc (.tmp tg) #[p] assign body).wpIn Fence.wide 0 P Q a w:=by
 refine wpIn_rangeFunc fun fn _=>?_
 obtain ⟨hE,hIt⟩:=hI
 obtain ⟨v,hv,hrep⟩:=hS.tmp tg _ hg
 have hev:a.eval (.tmp tg) = v:=by
  show a.tmps.getD tg undef = v
  simp only [Array.getD_eq_getD_getElem?,hv,Option.getD_some]
 cases hrep with
 | fn hl1 hl2 r1 r2 =>
  rename_i fv cv
  obtain rfl:fv = []:=List.eq_nil_of_length_eq_zero hl1.symm
  obtain ⟨rec,hrec⟩ : ∃ rec:LoopState → Loop,rec = fun st=>{ state:=st,pending:=none,fn,tmps:=a.tmps,params:=#[p],assign,body,defers:=w.heap.size }:=⟨_,rfl⟩
  obtain ⟨W1,hW1⟩ : ∃ W1,(w.alloc (.deferred (some []))).alloc (.loop (rec .ready)) = W1:=⟨_,rfl⟩
  have hx1:Ext w W1:=by rw [← hW1]; exact (Ext.alloc w _).trans (Ext.alloc _ _)
  have hsz1:W1.heap.size = w.heap.size + 2:=by rw [← hW1,World.size_alloc,World.size_alloc]
  have hL1:W1.heap[w.heap.size + 1]? = some (.loop (rec .ready)):=by
   rw [← hW1]; have:=World.alloc_heap_new (w.alloc (.deferred (some []))) (.loop (rec .ready)); rwa [World.size_alloc] at this
  have hK1:W1.heap[w.heap.size]? = some (.deferred (some [])):=by
   rw [← hW1]; exact (Ext.alloc _ _).at (World.alloc_heap_new w _)
  have hgs : ∀ x ∈ Gs,x.1 < w.heap.size:=fun x hx=>by
   obtain ⟨_,o,h2,_⟩:=hS.hp.glob x hx
   exact (Array.getElem?_eq_some_iff.1 h2).1
  have hgl : ∀ x ∈ Gs,x.1 ≠ w.heap.size + 1:=fun x hx=>by have:=hgs x hx; omega
  refine ⟨w.heap.size + 1,[markD w.heap.size],W1,{ target:=.fn (.func gf) cv.toArray,args:=#[.func (.yield (w.heap.size + 1)) #[] #[]] },W1,gf,
   #[.func (.yield (w.heap.size + 1)) #[] #[]] ++ cv.toArray,W1,?_,?_,fun _ _=>trivial,?_,fun h=>by simp [Fence.wide] at h,?_⟩
  ·rw [← hW1,hrec]; exact run_enterLoop_outer _ _ _ _ _
  ·simp only [resolve,hev]
   simp [go_sem]
  ·have eg : ∀ args w,(callFunc gf args).run P w = .ok (.enter gf args) w:=hE
   simp [invoke,go_sem,eg]
  ·
   let J:Nat → (Nat → Prop) → World → Prop:=fun k B W=>∃ (h:List (AId × AObj)) (nx:Nat) (m':AId → Option Blk),I k h nx ∧ SimH (· < nx) m' ok (fun i=>h.lookup i) W ∧ Step m w m' W ∧ Mon (· < st.next) m m' ∧
    W.heap[w.heap.size + 1]? = some (.loop (rec .ready)) ∧ W.heap[w.heap.size]? = some (.deferred (some [])) ∧ (∀ id t,m' id ≠ some (.at (w.heap.size + 1) t)) ∧ (∀ id t,m' id ≠ some (.at w.heap.size t)) ∧ (∀ b,B b → b < W.heap.size ∧ b ≠ w.heap.size + 1 ∧ okn ok m' b)
   refine (hIt (fun b=>okn ok m b ∧ b < w.heap.size) W1 cv (fun b hb=>by omega) (fun x hx=>?_) ⟨hl2,fun i q u hq hu=>?_⟩ (w.heap.size + 1) J ?_ ?_).mono ?_
   ·obtain ⟨_,o,h2,h3⟩:=hS.hp.glob x hx
    exact ⟨o,hx1.at h2,h3⟩
   ·refine Rep.mono ((r2 i q u hq hu).close (bH hcl i q hq)) (fun a u _ hc=>hx1.cell hc) (fun b hb hlt=>⟨hb,hlt⟩) (fun h=>by cases h) (fun _ h=>by cases h) (fun _ h=>by cases h)
   ·
    rintro k x B Wp W v hxk ⟨h,nx,m',hIk,hH,hst,hM,hl,hk,hnl,hnk,hBk⟩ hext hrv
    have hszl:w.heap.size + 1 < Wp.heap.size:=(Array.getElem?_eq_some_iff.1 hl).1
    have hHW:=hH.ext hext
    have hstW:Step m w m' W:=hst.trans (hext.step m')
    have hlW:=hext.at hl
    have hkW:=hext.at hk
    have hltW:w.heap.size + 1 < W.heap.size:=(Array.getElem?_eq_some_iff.1 hlW).1
    have hy:=run_yield (P:=P) (args:=#[v]) hlW (by rw [hrec]; rfl)
    rw [hrec] at hy
    refine ⟨fn,_,assign,body,hy,roundIn_of_wpIn trivial ?_⟩
    have hokn : ∀ b,(B b ∨ Wp.heap.size ≤ b) → b < W.heap.size → okn ok m' b:=by
     rintro b (hb | hb) _
     ·exact (hBk b hb).2.2
     ·exact ⟨hH.fresh b hb,fun id t e=>by have:=hH.lt id b t e; omega⟩
    have hSx:Sim n [] (· < nx) m' ok (St.e ⟨(p,x) :: st.env,h,nx⟩) (St.h ⟨(p,x) :: st.env,h,nx⟩) { tmps:=(#[p].zip #[v]).foldl (fun t (q,u)=>t.setIfInBounds q u) a.tmps,defers:=[] } W:=by
     have hfold:(#[p].zip #[v]).foldl (fun t (q,u)=>t.setIfInBounds q u) a.tmps = a.tmps.setIfInBounds p v:=by simp
     rw [hfold]
     refine ⟨hHW,fun t q hq=>?_,rfl,by simpa using hS.sz⟩
     by_cases ht:t = p
     ·subst ht
      have:q = x:=by simpa [St.e,List.lookup] using hq.symm
      subst this
      refine ⟨v,by simp [hS.sz,hp],hrv.mono (fun _ _ _ hc=>hc) hokn (fun h=>h) (fun _ _ _ h=>h.elim) (fun _ _ _ h=>h.elim)⟩
     ·have hq':st.env.lookup t = some q:=by
       have:(t == p) = false:=by simpa using ht
       simpa [St.e,List.lookup,this] using hq
      obtain ⟨u,g1,g2⟩:=hS.tmp t q hq'
      refine ⟨u,?_,g2.step hstW (fun id hid=>Nat.lt_of_lt_of_le hid (hle k h nx hIk)) hM⟩
      rw [Array.getElem?_setIfInBounds_ne (fun e=>ht e.symm)]
      exact g1
    have hwp:=hround k h nx x hIk hxk assign hac (some (w.heap.size + 1)) [] m' ok _ W (hle k h nx hIk) hSx
    refine wpIn_mono hwp ?_
    rintro e a1 w1 ⟨st1,m1,hp1⟩
    cases e with
    | normal =>
     have hl1:w1.heap[w.heap.size + 1]? = some (.loop (rec .ready)):=(hp1.step.keep _ hltW hnl).trans hlW
     have hk1:w1.heap[w.heap.size]? = some (.deferred (some [])):=(hp1.step.keep _ (by omega) hnk).trans hkW
     have hnl1:=hp1.step.avoid hltW hnl
     have hnk1:=hp1.step.avoid (by omega) hnk
     have hsz1':=hp1.step.size
     refine ⟨_,run_beginRound hl1 (by rw [hrec]),?_⟩
     have hH2:=hp1.sim.hp.putObj (o':=.loop { rec .ready with state:=.busy }) hl1 rfl hnl1 hgl
     have hS2:Sim n [] (· < st1.next) m1 ok st1.e st1.h a1 (w1.putObj (w.heap.size + 1) (.loop { rec .ready with state:=.busy })):=by
      refine ⟨hH2,fun t q hq=>?_,hp1.sim.df,hp1.sim.sz⟩
      obtain ⟨u,g1,g2⟩:=hp1.sim.tmp t q hq
      exact ⟨u,g1,g2.other fun _ _ hc=>d5 hl1 rfl hc⟩
     refine wpIn_mono (hp1.q body hbc (some (w.heap.size + 1)) [] m1 ok a1 _ hp1.le hS2) ?_
     rintro e2 a3 w3 ⟨st3,m3,hp3⟩
     obtain ⟨rfl,hI3⟩:=hp3.q
     have hlt2:w.heap.size + 1 < (w1.putObj (w.heap.size + 1) (.loop { rec .ready with state:=.busy })).heap.size:=by rw [World.putObj_size]; omega
     have hl3:w3.heap[w.heap.size + 1]? = some (.loop { rec .ready with state:=.busy }):=(hp3.step.keep _ hlt2 hnl1).trans (World.putObj_heap_same (by omega))
     have hk3:w3.heap[w.heap.size]? = some (.deferred (some [])):=(hp3.step.keep _ (Nat.lt_of_succ_lt hlt2) hnk1).trans ((World.putObj_heap_other (by omega)).trans hk1)
     have hnl3:=hp3.step.avoid hlt2 hnl1
     have hnk3:=hp3.step.avoid (Nat.lt_of_succ_lt hlt2) hnk1
     have hend:=run_endRound (P:=P) none hl3
     have hlb : ∀ b,(B b ∨ Wp.heap.size ≤ b) → b ≠ w.heap.size + 1:=by
      rintro b (hb | hb)
      ·exact (hBk b hb).2.1
      ·omega
     have hsz3:w1.heap.size ≤ w3.heap.size:=by
      have:=hp3.step.size
      rw [World.putObj_size] at this
      exact this
     refine ⟨_,_,hend,rfl,⟨st3.heap,st3.next,m3,hI3,?_,?_,?_,?_,?_,hnl3,hnk3,?_⟩,?_,?_,?_⟩
     ·exact hp3.sim.hp.putObj hl3 rfl hnl3 hgl
     ·exact (((hstW.trans hp1.step).putObj (by omega) _).trans hp3.step).putObj (by omega) _
     ·exact ((hM.trans hp1.mon fun _ h=>h).trans hp3.mon fun _ h=>h)
     ·have hlt3:w.heap.size + 1 < w3.heap.size:=(Array.getElem?_eq_some_iff.1 hl3).1
      rw [World.putObj_heap_same hlt3,hrec]
      rfl
     ·exact (World.putObj_heap_other (by omega)).trans hk3
     ·rintro b ⟨hb,hlt⟩
      have hn':=hokn b hb hlt
      have hn1:=hp1.step.avoid hlt hn'.2
      exact ⟨by rw [World.putObj_size]; omega,hlb b hb,hn'.1,hp3.step.avoid (by rw [World.putObj_size]; omega) hn1⟩
     ·rintro b ⟨hb,hlt⟩
      have hn':=hokn b hb hlt
      have hn1:=hp1.step.avoid hlt hn'.2
      have hbl:=hlb b hb
      rw [World.putObj_heap_other hbl,hp3.step.keep b (by rw [World.putObj_size]; omega) hn1,World.putObj_heap_other hbl,hp1.step.keep b hlt hn'.2]
     ·rw [World.putObj_size]
      omega
     ·intro y hy
      obtain ⟨_,o,h2,h3⟩:=hp3.sim.hp.glob y hy
      exact ⟨o,(World.putObj_heap_other (hgl y hy)).trans h2,h3⟩
    | exit id=>exact hp1.q.elim
    | goto id=>exact hp1.q.elim
    | ret=>exact hp1.q.elim
    | panic c=>exact hp1.q.elim
    | outgrown=>exact hp1.q.elim
   ·refine ⟨st.heap,st.next,m,h0,hS.hp.ext hx1,hx1.step m,Mon.refl _ m,hL1,hK1,fun id t e=>?_,fun id t e=>?_,fun b hb=>⟨by omega,by omega,hb.1⟩⟩
    ·have:=hS.hp.lt id _ t e; omega
    ·have:=hS.hp.lt id _ t e; omega
   ·
    rintro e W2 ⟨u,B,Wp,rfl,⟨h,nx,m',hIk,hH,hst,hM,hl,hk,hnl,hnk,_⟩,hext⟩
    have hl2':=hext.at hl
    refine ⟨none,_,by have:=run_endLoop (P:=P) hl2' (by rw [hrec]; simp); rw [hrec] at this; exact this,?_⟩
    have hst2:Step m w m' (W2.putObj (w.heap.size + 1) (.loop { rec .ready with state:=.exhausted })):=(hst.trans (hext.step m')).putObj (by omega) _
    have hH2:=(hH.ext hext).putObj (o':=.loop { rec .ready with state:=.exhausted }) hl2' rfl hnl hgl
    rw [hrec] at hst2 hH2
    have hds:({ a with defers:=[markD w.heap.size] ++ a.defers }:Act) = { a with defers:=[markD w.heap.size] }:=by rw [hS.df]; rfl
    show Q .normal { a with defers:=[markD w.heap.size] ++ a.defers } _
    rw [hds]
    refine hQ h nx m' _ w.heap.size hIk ⟨hH2,fun t q hq=>?_,rfl,hS.sz⟩ hst2 hM (Nat.le_refl _) ((World.putObj_heap_other (by omega)).trans (hext.at hk)) hnk
    obtain ⟨u',g1,g2⟩:=hS.tmp t q hq
    exact ⟨u',g1,g2.step hst2 (fun id hid=>Nat.lt_of_lt_of_le hid (hle _ h nx hIk)) hM⟩
theorem FnOk.of_marks {P:Program} {f:FuncId} {fn:Func} {c:Code} {ts:List RV} {ps:List PVal} {h0:List (AId × AObj)} {k0:Nat} {r:PVal} {h1:List (AId × AObj)} {k1:Nat}
  (hf:P.funcs[f]? = some fn) (hname:(fn.name == "runtime.NumGoroutine") = false) (hb:fn.body = some c) (hts:resVars P fn.results.toList = some ts) (hn:ps.length ≤ fn.ntmps) (hk:k0 ≤ k1)
  (hW : ∀ (m:AId → Option Blk) (ok:Nat → Prop) (a:Act) (w:World),Sim fn.ntmps [] (· < k0) m ok (St.e ⟨paramE 0 ps,h0,k0⟩) (St.h ⟨paramE 0 ps,h0,k0⟩) a w →
   c.wpIn Fence.wide 0 P (fun e a' w'=>∃ (st':St) (m':AId → Option Blk) (D:Nat),Post fn.ntmps [markD D] k0 m ok w (RetQ k0 ts r h1 k1) e a' w' st' m' ∧ w.heap.size ≤ D ∧ w'.heap[D]? = some (.deferred (some [])) ∧ ∀ id t,m' id ≠ some (.at D t)) a w):FnOk P f ps h0 k0 r h1 k1:=by
 refine ⟨enters_of hf hname hb,hk,fun m ok w vs hH hr=>(callsIn_wide (n:=0)).1 <| callsIn_of_wp_marks (F:=Fence.wide) hf hb trivial (wpIn_mono (hW m ok _ w ⟨hH,fun t p hp=>?_,rfl,?_⟩) ?_)⟩
 ·obtain ⟨j,rfl,hj⟩:=bU hp
  have hlt:j < vs.length:=by rw [← hr.1]; exact (List.getElem?_eq_some_iff.1 hj).1
  refine ⟨vs[j],?_,hr.2 j p _ hj (List.getElem?_eq_getElem hlt)⟩
  rw [Nat.zero_add,Array.getElem?_append_left (by simpa using hlt)]
  simp [hlt]
 ·have:=hr.1
  simp; omega
 ·rintro e a' w0 ⟨st',m',D,hp0,hD,hDk,hDm⟩
  obtain ⟨w',hw'⟩ : ∃ w',w0.putObj D (.deferred none) = w':=⟨_,rfl⟩
  have hgD : ∀ x ∈ Gs,x.1 ≠ D:=fun x hx=>by
   obtain ⟨_,o,h2,_⟩:=hH.glob x hx
   have:=(Array.getElem?_eq_some_iff.1 h2).1
   omega
  have hsim:Sim fn.ntmps [markD D] (· < st'.next) m' ok st'.e st'.h a' w':=by
   rw [← hw']
   refine ⟨hp0.sim.hp.putObj hDk rfl hDm hgD,fun t q hq=>?_,hp0.sim.df,hp0.sim.sz⟩
   obtain ⟨u,g1,g2⟩:=hp0.sim.tmp t q hq
   exact ⟨u,g1,g2.other fun _ _ hc=>d5 hDk rfl hc⟩
  have hp:Post fn.ntmps [markD D] k0 m ok w (RetQ k0 ts r h1 k1) e a' w' st' m':=⟨hp0.q,hsim,by rw [← hw']; exact hp0.step.putObj hD _,hp0.mon,hp0.le⟩
  obtain ⟨he,qs0,st2,qs,hq0,hcv,hq,hre,hh,hnx⟩:=hp.q
  obtain ⟨vs0,hr0,hrun⟩:=fV (P:=P) hp.sim hts hq0
  have hS1:Sim vs0.length [markD D] (· < st'.next) m' ok (St.e ⟨paramE 0 qs0,st'.heap,st'.next⟩) (St.h ⟨paramE 0 qs0,st'.heap,st'.next⟩) { a' with tmps:=vs0.toArray } w':=by
   refine ⟨hp.sim.hp,fun t p hp'=>?_,hp.sim.df,by simp⟩
   obtain ⟨j,rfl,hj⟩:=bU hp'
   have hlt:j < vs0.length:=by rw [← hr0.1]; exact (List.getElem?_eq_some_iff.1 hj).1
   refine ⟨vs0[j],?_,hr0.2 j p _ hj (List.getElem?_eq_getElem hlt)⟩
   rw [Nat.zero_add]
   simp [hlt]
  obtain ⟨m2,hS2,hst2,hM2,_⟩:=hcv _ [markD D] m' ok _ w' hp.le hS1
  have hreps:=eT hS2 hq
  have hlen0:=hr0.1
  have hvs:(List.range qs0.length).map (fun t=>vs0.toArray.getD t undef) = vs0:=by
   apply List.ext_getElem?
   intro i
   rw [List.getElem?_map]
   by_cases hi:i < qs0.length
   ·rw [List.getElem?_range hi]
    have:i < vs0.length:=by omega
    simp [this]
   ·rw [List.getElem?_eq_none (by simpa using hi),List.getElem?_eq_none (by omega)]
    rfl
  rw [hvs] at hreps
  have key : ∃ v,(results fn a'.tmps).run P w' = .ok v w' ∧ ∃ (v':Value) (m':AId → Option Blk),Ending.returned v = .returned v' ∧ SimH (· < k1) m' ok (fun i=>h1.lookup i) w' ∧ Rep w' (okn ok m') (· < k1) m' false r v' ∧ Step m w m' w' ∧ Mon (· < k0) m m':=by
   refine ⟨_,hrun,_,m2,rfl,?_,?_,hp.step.trans hst2,hp.mon.trans hM2 fun _ h=>h⟩
   ·rw [← hnx,← hh]; exact hS2.hp
   ·rw [hnx] at hreps
    have hlen:=hreps.1
    refine Rep.weak ?_ hre
    cases vs0 with
    | nil =>
     obtain rfl:=List.eq_nil_of_length_eq_zero hlen
     exact Rep.tup (cs:=[]) (vs:=[]) rfl (fun i p v h=>by simp at h)
    | cons v vs' =>
     cases qs with
     | nil=>simp at hlen
     | cons q qs' =>
      cases vs' with
      | nil =>
       obtain rfl:qs' = []:=List.eq_nil_of_length_eq_zero (by simpa using hlen)
       have:=hreps.head
       simpa [retV] using this
      | cons v' vs'' =>
       cases qs' with
       | nil=>simp at hlen
       | cons q' qs'' =>
        rw [dif_neg (by simp)]
        exact Rep.tup hreps.1 hreps.2
  have fin:LeavesInM Fence.wide 0 P fn a'.tmps (fun e w'=>∃ (v:Value) (m':AId → Option Blk),e = .returned v ∧ SimH (· < k1) m' ok (fun i=>h1.lookup i) w' ∧ Rep w' (okn ok m') (· < k1) m' false r v ∧ Step m w m' w' ∧ Mon (· < k0) m m') a'.defers .returning w0:=by
   rw [hp0.sim.df]
   exact ⟨by simp,.inl ⟨D,w',rfl,by rw [← hw']; exact run_takeDeferred hDk,key⟩⟩
  rcases he with rfl | rfl
  ·exact fin
  ·exact fin
theorem transC_seq {P:Program} {c:Code} {x y:AC} (h:transC P c = some (.seq x y)) : ∃ c1 c2,c = .seq c1 c2 ∧ transC P c1 = some x ∧ transC P c2 = some y:=by
 cases c <;> simp only [transC] at h
 case seq c1 c2 =>
  split at h
  ·rename_i x' y' h1 h2
   injection h with h
   injection h with e1 e2
   subst e1 e2
   exact ⟨c1,c2,rfl,h1,h2⟩
  ·cases h
 all_goals first | cases h | (simp [Option.map_eq_some_iff] at h; done) | (split at h <;> first | cases h | (injection h with h; cases h))
theorem transC_cond {P:Program} {c:Code} {z:AX} {x y:AC} (h:transC P c = some (.cond z x y)) : ∃ c0 c1 c2,c = .cond c0 c1 c2 ∧ ofOp c0 = z ∧ transC P c1 = some x ∧ transC P c2 = some y:=by
 cases c <;> simp only [transC] at h
 case cond c0 c1 c2 =>
  split at h
  ·rename_i x' y' h1 h2
   injection h with h
   injection h with e0 e1 e2
   subst e0 e1 e2
   exact ⟨c0,c1,c2,rfl,rfl,h1,h2⟩
  ·cases h
 all_goals first | cases h | (simp [Option.map_eq_some_iff] at h; done) | (split at h <;> first | cases h | (injection h with h; cases h))
theorem transC_block {P:Program} {c:Code} {id:Nat} {x:AC} (h:transC P c = some (.block id x)) : ∃ c1,c = .block id c1 ∧ transC P c1 = some x:=by
 cases c <;> simp only [transC] at h
 case block id' c1 =>
  obtain ⟨x',h1,he⟩:=Option.map_eq_some_iff.1 h
  injection he with e1 e2
  subst e1 e2
  exact ⟨c1,rfl,h1⟩
 all_goals first | cases h | (simp [Option.map_eq_some_iff] at h; done) | (split at h <;> first | cases h | (injection h with h; cases h))
theorem transC_loop {P:Program} {c:Code} {x:AC} (h:transC P c = some (.loop x)) : ∃ c1,c = .loop c1 ∧ transC P c1 = some x:=by
 cases c <;> simp only [transC] at h
 case loop c1 =>
  obtain ⟨x',h1,he⟩:=Option.map_eq_some_iff.1 h
  injection he with e1
  subst e1
  exact ⟨c1,rfl,h1⟩
 all_goals first | cases h | (simp [Option.map_eq_some_iff] at h; done) | (split at h <;> first | cases h | (injection h with h; cases h))
theorem eC {P:Program} {ops:Array Oper} : ∀ {l:List Oper} {aos:List AO} {i:Nat} {o:Oper},transOpers P ops l = some aos → l[i]? = some o → ∃ ao,aos[i]? = some ao ∧ transOper P ops o = some ao
 | [],aos,i,o,h,ho=>by simp at ho
 | x :: r,aos,i,o,h,ho=>by
  simp only [transOpers] at h
  split at h
  ·rename_i a l h1 h2
   injection h with h
   subst h
   cases i with
   | zero=>simp at ho; subst ho; exact ⟨a,rfl,h1⟩
   | succ i =>
    obtain ⟨ao,g1,g2⟩:=eC h2 (by simpa using ho)
    exact ⟨ao,by simpa using g1,g2⟩
  ·cases h
theorem dW {P:Program} {ops:Array Oper} : ∀ {l:List Oper} {aos:List AO},transOpers P ops l = some aos → aos.length = l.length
 | [],aos,h=>by simp [transOpers] at h; simp [h]
 | x :: r,aos,h=>by
  simp only [transOpers] at h
  split at h
  ·rename_i a l h1 h2
   injection h with h
   subst h
   simp [dW h2]
  ·cases h
section
variable {P:Program} {n l:Nat} {xs:List PVal} {J:Nat → (Nat → Prop) → World → Prop}
def YieldOk (P:Program) (l:Nat) (xs:List PVal) (J:Nat → (Nat → Prop) → World → Prop):Prop :=
 ∀ (k:Nat) (x:PVal) (B:Nat → Prop) (Wp W:World) (v:Value),xs[k]? = some x → J k B Wp → Ext Wp W → Rep W (fun b=>B b ∨ Wp.heap.size ≤ b) (fun _=>False) (fun _=>none) false x v →
  YieldAt Fence.wide 0 P l #[v] W fun e W'=>e = .returned (.bool true) ∧ J (k + 1) (fun b=>(B b ∨ Wp.heap.size ≤ b) ∧ b < W.heap.size) W' ∧ Keeps (fun b=>(B b ∨ Wp.heap.size ≤ b) ∧ b < W.heap.size) W W'
def IInv (n:Nat) (J:Nat → (Nat → Prop) → World → Prop) (k:Nat) (st:St) (a:Act) (w:World):Prop :=
 ∃ (B:Nat → Prop) (Wp:World) (m:AId → Option Blk),J k B Wp ∧ Sim n [] (· < st.next) m (fun b=>B b ∨ Wp.heap.size ≤ b) st.e st.h a w ∧ Step (fun _=>none) Wp m w
def IW (P:Program) (n:Nat) (J:Nat → (Nat → Prop) → World → Prop) (ac:AC) (Q:Exit → Nat → St → Prop) (k:Nat) (st:St):Prop :=
 ∀ c,transC P c = some ac → ∀ (a:Act) (w:World),IInv n J k st a w → c.wpIn Fence.wide 0 P (fun e a' w'=>∃ k' st',Q e k' st' ∧ IInv n J k' st' a' w') a w
theorem fy {ac:AC} {Q:Exit → Nat → St → Prop} {k:Nat} {st:St} (h:W P n 0 ac (fun e s=>Q e k s) st):IW P n J ac Q k st:=by
 rintro c hc a w ⟨B,Wp,m,hJ,hS,hst⟩
 refine wpIn_mono (h c hc none [] m _ a w (Nat.zero_le _) hS) ?_
 rintro e a' w' ⟨st',m',hp⟩
 exact ⟨k,st',hp.q,B,Wp,m',hJ,hp.sim,hst.trans hp.step⟩
theorem IW.mono {ac:AC} {Q Q':Exit → Nat → St → Prop} {k:Nat} {st:St} (h:IW P n J ac Q k st) (hq : ∀ e k s,Q e k s → Q' e k s):IW P n J ac Q' k st:=by
 intro c hc a w hI
 refine wpIn_mono (h c hc a w hI) ?_
 rintro e a' w' ⟨k',st',h1,h2⟩
 exact ⟨k',st',hq _ _ _ h1,h2⟩
def IThen (K:Nat → St → Prop) (Q:Exit → Nat → St → Prop):Exit → Nat → St → Prop
 | .normal,k,s=>K k s
 | e,k,s=>Q e k s
def IBlk (id:Nat) (Q:Exit → Nat → St → Prop):Exit → Nat → St → Prop
 | .exit i,k,s=>if i = id then Q .normal k s else Q (.exit i) k s
 | e,k,s=>Q e k s
theorem IW.seq {x y:AC} {Q:Exit → Nat → St → Prop} {k:Nat} {st:St} (h:IW P n J x (IThen (IW P n J y Q) Q) k st):IW P n J (.seq x y) Q k st:=by
 intro c hc a w hI
 obtain ⟨c1,c2,rfl,h1,h2⟩:=transC_seq hc
 refine wpIn_seq (wpIn_mono (h c1 h1 a w hI) ?_)
 rintro e a' w' ⟨k',st',hq,hI'⟩
 cases e with
 | normal=>exact hq c2 h2 a' w' hI'
 | exit id=>exact ⟨k',st',hq,hI'⟩
 | goto id=>exact ⟨k',st',hq,hI'⟩
 | ret=>exact ⟨k',st',hq,hI'⟩
 | panic id=>exact ⟨k',st',hq,hI'⟩
 | outgrown=>exact ⟨k',st',hq,hI'⟩
theorem IW.block {id:Nat} {x:AC} {Q:Exit → Nat → St → Prop} {k:Nat} {st:St} (h:IW P n J x (IBlk id Q) k st):IW P n J (.block id x) Q k st:=by
 intro c hc a w hI
 obtain ⟨c1,rfl,h1⟩:=transC_block hc
 refine wpIn_block (wpIn_mono (h c1 h1 a w hI) ?_)
 rintro e a' w' ⟨k',st',hq,hI'⟩
 cases e with
 | exit i =>
  simp only [IBlk] at hq
  simp only [Exit.inBlock]
  split
  ·rename_i hi; rw [if_pos hi] at hq; exact ⟨k',st',hq,hI'⟩
  ·rename_i hi; rw [if_neg hi] at hq; exact ⟨k',st',hq,hI'⟩
 | normal=>exact ⟨k',st',hq,hI'⟩
 | goto id=>exact ⟨k',st',hq,hI'⟩
 | ret=>exact ⟨k',st',hq,hI'⟩
 | panic id=>exact ⟨k',st',hq,hI'⟩
 | outgrown=>exact ⟨k',st',hq,hI'⟩
theorem IW.loop {x:AC} {Q:Exit → Nat → St → Prop} {k:Nat} {st:St} (I:Nat → Nat → St → Prop) (f:Nat) (h0:I f k st) (round : ∀ f k s,I f k s → IW P n J x (IThen (fun k' s'=>∃ f',f' < f ∧ I f' k' s') Q) k s):IW P n J (.loop x) Q k st:=by
 intro c hc a w hI
 obtain ⟨c1,rfl,h1⟩:=transC_loop hc
 refine wpIn_loop_ghost (fun f a' w'=>∃ k' st',I f k' st' ∧ IInv n J k' st' a' w') f ⟨k,st,h0,hI⟩ ?_
 rintro f a' w' ⟨k',st',hi,hI'⟩
 refine wpIn_mono (round f k' st' hi c1 h1 a' w' hI') ?_
 rintro e a2 w2 ⟨k2,st2,hq,hI2⟩
 cases e with
 | normal =>
  obtain ⟨f',hlt,hi'⟩:=hq
  exact ⟨f',hlt,k2,st2,hi',hI2⟩
 | exit id=>exact ⟨k2,st2,hq,hI2⟩
 | goto id=>exact ⟨k2,st2,hq,hI2⟩
 | ret=>exact ⟨k2,st2,hq,hI2⟩
 | panic id=>exact ⟨k2,st2,hq,hI2⟩
 | outgrown=>exact ⟨k2,st2,hq,hI2⟩
theorem IW.cond {z:AX} {x y:AC} {b:Bool} {Q:Exit → Nat → St → Prop} {k:Nat} {st:St} (hz:evalX st.env z = some (.bool b)) (ht:b = true → IW P n J x Q k st) (hf:b = false → IW P n J y Q k st):IW P n J (.cond z x y) Q k st:=by
 intro c hc a w hI
 obtain ⟨c0,c1,c2,rfl,rfl,h1,h2⟩:=transC_cond hc
 obtain ⟨B,Wp,m,hJ,hS,hst⟩:=hI
 have hv:=dJ (P:=P) hS hz fun t _=>rfl
 exact wpIn_cond_split (ce hv) (fun h=>ht h c1 h1 a w ⟨B,Wp,m,hJ,hS,hst⟩) (fun h=>hf h c2 h2 a w ⟨B,Wp,m,hJ,hS,hst⟩)
theorem lt_split (i n j:Nat):(i < n ∨ (n ≤ i ∧ i < n + j)) ↔ i < n + j:=by omega
theorem op_step {ops:Array Oper} {i:Nat} {ao:AO} {o:Oper} {st:St} {e:Eff} {m:AId → Option Blk} {ok:Nat → Prop} {a:Act} {w:World} {Q:Exit → Act → World → Prop} {K:Act → World → Prop} (ho:ops[i]? = some o) (ht:transOper P ops o = some ao) (he:EffOk P n st ao e)
  (hS:Sim n [] (· < st.next) m ok st.e st.h a w) (hK : ∀ (m':AId → Option Blk) (a':Act) (w':World),Sim n [] (· < (st.app e).next) m' ok (st.app e).e (st.app e).h a' w' → Step m w m' w' → K a' w'):wpOpIn Fence.wide 0 P ops Q i K a w:=by
 have hnext:(st.app e).next = st.next + e.nw.length:=by rfl
 obtain ⟨⟨j,hnw⟩,hop⟩:=he
 have hlen:e.nw.length = j:=by rw [hnw]; simp
 refine hop ops i o ho ht none [] (· < st.next) m ok st.e st.h a w Q K hS (fun _ _=>rfl) (fun _ _=>rfl) (fun id hid h=>?_) (fun D' m' a' w' hS' h1 h2 h3=>?_)
 ·rw [hnw] at hid
  exact absurd h (Nat.not_lt.2 (List.mem_range'_1.1 hid).1)
 ·have hD:D' = (· < (st.app e).next):=funext fun id=>propext ((h3 id).trans (by
   rw [hnext,hnw,List.mem_range'_1]
   simp only [List.length_range']
   exact lt_split id st.next j))
  subst hD
  refine hK m' a' w' ?_ h1
  rw [ig,ic]
  exact hS'
theorem ops_run {ops:Array Oper} {Q:Exit → Act → World → Prop} {r:Nat} {l:List AO} {st st':St} {es:List Eff} (h:Run P n l st es st') : ∀ (i:Nat) (m:AId → Option Blk) (ok:Nat → Prop) (a:Act) (w:World),(∀ j ao,l[j]? = some ao → ∃ o,ops[i + j]? = some o ∧ transOper P ops o = some ao) →
  Sim n [] (· < st.next) m ok st.e st.h a w → (∀ (m':AId → Option Blk) (a':Act) (w':World),Sim n [] (· < st'.next) m' ok st'.e st'.h a' w' → Step m w m' w' → wpOpsIn Fence.wide 0 P ops Q (List.range' (i + l.length) r) a' w') → wpOpsIn Fence.wide 0 P ops Q (List.range' i (l.length + r)) a w:=by
 induction h with
 | nil =>
  intro i m ok a w _ hS hK
  rw [List.length_nil,Nat.zero_add]
  exact hK m a w hS (Step.refl m w)
 | @cons ao l st st' e es he hr ih =>
  intro i m ok a w hop hS hK
  obtain ⟨o,h1,h2⟩:=hop 0 ao rfl
  rw [List.length_cons,show l.length + 1 + r = (l.length + r) + 1 by omega,List.range'_succ,wpOpsIn_cons]
  refine op_step h1 h2 he hS fun m' a' w' hS' hst=>ih (i + 1) m' ok a' w' (fun j ao hj=>?_) hS' fun m2 a2 w2 hS2 hst2=>?_
  ·obtain ⟨o,g1,g2⟩:=hop (j + 1) ao (by simpa using hj)
   exact ⟨o,by rw [show i + 1 + j = i + (j + 1) by omega]; exact g1,g2⟩
  ·have:=hK m2 a2 w2 hS2 (hst.trans hst2)
   rwa [List.length_cons,show i + (l.length + 1) = i + 1 + l.length by omega] at this
theorem IW.regY {pre post:List AO} {ao:AO} {d:Nat} {x:PVal} {st st1 st3:St} {es1 es3:List Eff} {env2:List (Nat × PVal)} {k:Nat} {Q:Exit → Nat → St → Prop} (hY:YieldOk P l xs J) (h1:Run P n pre st es1 st1) (hop:ao.op = .callv) (hd:ao.d = some d) (hdn:d < n)
  (hg:guarded st1.env ao.g = some true) (hx:evalXs st1.env ao.xs = some [.yld l,x]) (hxc:x.closed = true) (hk:xs[k]? = some x)
  (he : ∀ t p,env2.lookup t = some p → (t = d ∧ p = .bool true) ∨ (t ≠ d ∧ st1.env.lookup t = some p ∧ p.closed = true)) (h3:Run P n post { env:=env2,heap:=[],next:=0 } es3 st3) (hQ:Q .normal (k + 1) st3):IW P n J (.reg [] (pre ++ ao :: post)) Q k st:=by
 rintro c hc a w ⟨B,Wp,m,hJ,hS,hst⟩
 cases c <;> simp only [transC] at hc
 case region id ops dr =>
  obtain ⟨l',hl,he'⟩:=Option.map_eq_some_iff.1 hc
  injection he' with he1 he2
  subst he2
  have hlen:=dW hl
  have hsz0:ops.toList.length = ops.size:=by simp
  rw [List.length_append,List.length_cons,hsz0] at hlen
  cases dr with
  | true =>
   exfalso
   simp only [if_true] at he1
   have:=congrArg List.length he1
   simp [directs] at this
   rw [this] at hlen
   simp at hlen
  | false =>
   have hget : ∀ (i:Nat) (ao':AO),(pre ++ ao :: post)[i]? = some ao' → ∃ o:Oper,ops[i]? = some o ∧ transOper P ops o = some ao':=by
    intro i ao' hi
    have hlt:i < ops.size:=by have:=(List.getElem?_eq_some_iff.1 hi).1; simp at this; omega
    obtain ⟨ao2,g1,g2⟩:=eC hl (i:=i) (o:=ops[i]) (by simp [hlt])
    rw [hi] at g1
    injection g1 with g1
    subst g1
    exact ⟨ops[i],by simp [hlt],g2⟩
   refine wpIn_region ?_
   rw [List.range_eq_range',show ops.size = pre.length + (post.length + 1) by omega]
   refine ops_run h1 0 m _ a w (fun j ao' hj=>?_) hS fun m1 a1 w1 hS1 hst1=>?_
   ·rw [Nat.zero_add]
    exact hget j ao' (by rw [List.getElem?_append_left (List.getElem?_eq_some_iff.1 hj).1]; exact hj)
   ·rw [Nat.zero_add,List.range'_succ,wpOpsIn_cons]
    obtain ⟨o,ho,ht⟩:=hget pre.length ao (by simp)
    obtain ⟨xs',g1,g2,g3,g4⟩:=bA ht
    have hw:=cP (P:=P) hS1 g2 hg fun t _=>rfl
    have hreps:=ch (P:=P) hS1 g3 hx fun t _=>rfl
    have hnb:ao.op ≠ .bad:=by rw [hop]; exact fun h=>by cases h
    unfold wpOpIn
    simp only [ho,hw,if_true]
    unfold Oper.wpIn
    refine ⟨fun _ _=>trivial,?_⟩
    rw [Oper.semAt_eq _ _ _ (cq ht hnb)]
    rw [hop] at g1
    replace g1:=g1.resolve_right (fun h=>by cases h)
    generalize hoo:o.op = oo at g1
    unfold trans at g1
    split at g1
    all_goals try (first
     | (injection g1 with g1; injection g1 with e1 e2; cases e1; done)
     | cases g1)
    all_goals try (first
     | (obtain ⟨_,_,e1⟩:=Option.map_eq_some_iff.1 g1; injection e1 with e1 e2; cases e1; done)
     | (repeat' split at g1) <;> first
      | cases g1
      | (injection g1 with g1; injection g1 with e1 e2; cases e1; done)
      | (obtain ⟨_,_,e1⟩:=Option.bind_eq_some_iff.1 g1; split at e1 <;> first | (cases e1; done) | (injection e1 with e1; injection e1 with e1 e2; cases e1; done))
      | (obtain ⟨_,_,e1⟩:=Option.map_eq_some_iff.1 g1; injection e1 with e1 e2; cases e1; done))
    rename_i t args ats
    simp only [List.map_cons] at hreps
    have hhd:=hreps.head
    have htl:=hreps.tail
    generalize hfv:a1.eval (.tmp t) = fv at hhd
    cases hhd with
    | yld =>
     obtain ⟨v,vs,ev,r1,hr2⟩:=htl.uncons
     have ev3:=hr2.unnil
     subst ev3
     have hext:Ext Wp w1:=Ext.of (hst.trans hst1)
     have hclosed : ∀ (p:PVal) (u:Value),p.closed = true → Rep w1 (okn (fun b=>B b ∨ Wp.heap.size ≤ b) m1) (· < st1.next) m1 false p u → Rep w1 (fun b=>B b ∨ Wp.heap.size ≤ b) (fun _=>False) (fun _=>none) false p u:=fun p u hp hr =>
      (hr.close hp).mono (fun _ _ _ hc=>hc) (fun b hb _=>hb.1) (fun h=>by cases h) (fun _ h=>by cases h) (fun _ h=>by cases h)
     obtain ⟨fn,tmps,assign,body,hy,hR⟩:=hY k x B Wp w1 v hk hJ hext (hclosed x v hxc r1)
     have hrun:(execOp a1.eval o).run P w1 = (Instr.yield l #[v]).run P w1:=by
      unfold execOp
      simp only [hoo]
      simp only [Act.eval] at hfv
      simp only [resolve,Act.eval,Deferred.ofValue,Sem.run_bind,Sem.run_pure,Result.andThen_ok,invoke,hfv]
      congr 2
      apply Array.ext'
      simpa using ev
     rw [hrun,hy,Oper.uponIn_round]
     refine ⟨fun h=>by simp [Fence.wide] at h,hR.mono ?_⟩
     rintro e W' ⟨rfl,hJ',hK⟩
     have hlt : ∀ (a:Addr) (u:Value),(B a.block ∨ Wp.heap.size ≤ a.block) → w1.cell? a = some u → W'.cell? a = some u:=fun a u hb hc=>by
      rw [dw (hK.blk a.block ⟨hb,fu hc⟩)]
      exact hc
     have hS2:Sim n [] (· < 0) (fun _=>none) (fun b=>((B b ∨ Wp.heap.size ≤ b) ∧ b < w1.heap.size) ∨ W'.heap.size ≤ b) (St.e ⟨env2,[],0⟩) (St.h ⟨env2,[],0⟩) (a1.put o.dst (.bool true)) W':=by
      have hdst:o.dst = some d:=by rw [← g4,hd]
      refine ⟨⟨fun id o h=>by simp [St.h] at h,fun id B h=>by simp at h,fun id id' b t t' h=>by simp at h,fun id b t h=>by simp at h,fun id b t h=>by simp at h,fun b h=>.inr h,fun y hy=>⟨fun id t h=>(by cases h),hK.gs y hy⟩⟩,fun t' p hp=>?_,?_,?_⟩
      ·rw [hdst]
       rcases he t' p hp with ⟨rfl,rfl⟩ | ⟨hne,hp',hpc⟩
       ·exact ⟨.bool true,by simp [Act.put,hS1.sz,hdn],.bool⟩
       ·obtain ⟨u,q1,q2⟩:=hS1.tmp t' p hp'
        refine ⟨u,by simp only [Act.put]; rw [Array.getElem?_setIfInBounds_ne (fun e=>hne e.symm)]; exact q1,?_⟩
        exact (hclosed p u hpc q2).mono hlt (fun b hb hbl=>⟨.inl ⟨hb,hbl⟩,fun _ _ h=>by cases h⟩) (fun h=>h) (fun _ _ _ h=>h.elim) (fun _ _ _ h=>h.elim)
      ·rw [hdst]; exact hS1.df
      ·rw [hdst]; simp only [Act.put,Array.size_setIfInBounds]; exact hS1.sz
     have hfin:=ops_run (r:=0) (Q:=fun e a' w'=>∃ k' st',Q e k' st' ∧ IInv n J k' st' a' w') h3 (pre.length + 1) (fun _=>none) _ _ W' (fun j ao' hj=>hget _ ao' (by
      rw [List.getElem?_append_right (by omega),show pre.length + 1 + j - pre.length = j + 1 by omega]
      simpa using hj)) hS2 fun m3 a3 w3 hS3 hst3=>by
       show (∃ k' st',Q .normal k' st' ∧ IInv n J k' st' a3 w3)
       exact ⟨k + 1,st3,hQ,_,W',m3,hJ',hS3,hst3⟩
     exact hfin
 all_goals first | cases hc | (simp [Option.map_eq_some_iff] at hc; done) | (split at hc <;> first | cases hc | (injection hc with hc; cases hc))
theorem IW.len {ac:AC} {Q:Exit → Nat → St → Prop} {k:Nat} {st:St} {t sz:Nat} {es:List (List PVal)} (h:st.env.lookup t = some (.ro sz es)) (hk:es.length ≤ maxLen → IW P n J ac Q k st):IW P n J ac Q k st:=by
 intro c hc a w hI
 obtain ⟨B,Wp,m,hJ,hS,hst⟩:=hI
 obtain ⟨v,hv,hr⟩:=hS.tmp t _ h
 have hl:es.length ≤ maxLen:=by
  cases hr with
  | ro vs hn hcp hml _ _ _ _=>omega
 exact hk hl c hc a w ⟨B,Wp,m,hJ,hS,hst⟩
theorem IW.ofC {ac:AC} {Q:Exit → Nat → St → Prop} {k:Nat} {st:St} (h:W P n 0 ac (fun e s=>∃ s',Conv 0 s s' ∧ Q e k s') st):IW P n J ac Q k st:=fy (W.post h)
theorem IW.regG {pre post:List AO} {ao:AO} {d:Nat} {st:St} {k:Nat} {Q:Exit → Nat → St → Prop} (hY:YieldOk P l xs J) (hop:ao.op = .callv) (hd:ao.d = some d) (hdn:Nat.blt d n = true)
  (h:GX P n (fun st1=>∃ (x:PVal) (ts:List Nat) (env2:List (Nat × PVal)),guarded st1.env ao.g = some true ∧ evalXs st1.env ao.xs = some [.yld l,x] ∧ x.closed = true ∧ xs[k]? = some x ∧
   pickE st1.env ts = env2 ∧ (env2.all fun y=>y.2.closed && !(Nat.beq y.1 d)) = true ∧ GX P n (fun st3=>Q .normal (k + 1) st3) post ⟨(d,.bool true) :: env2,[],0⟩) pre st):IW P n J (.reg [] (pre ++ ao :: post)) Q k st:=by
 obtain ⟨es,st1,h1,_,x,ts,env2,hg,hx,hxc,hk,hp,hall,h3⟩:=h.run.rg (acc:=[])
 obtain ⟨es3,st3,h4,_,hQ⟩:=h3.run.rg (acc:=[])
 refine IW.regY hY h1 hop hd (by simpa [Nat.blt_eq] using hdn) hg hx hxc hk (fun t p hlk=>?_) h4 hQ
 by_cases ht:t = d
 ·subst ht
  left
  simpa [List.lookup] using hlk.symm
 ·right
  have:(t == d) = false:=by simpa using ht
  simp only [List.lookup,this] at hlk
  have h5:st1.env.lookup t = some p:=by rw [← hp] at hlk; exact cN _ _ _ _ hlk
  have hmem:(t,p) ∈ env2:=by
   clear h5 h4 h3 hp
   induction env2 with
   | nil=>simp at hlk
   | cons y r ih =>
    obtain ⟨y1,y2⟩:=y
    by_cases hy:t = y1
    ·subst hy
     simp [List.lookup] at hlk
     subst hlk
     exact List.mem_cons_self
    ·have hy':(t == y1) = false:=by simpa using hy
     simp only [List.lookup,hy'] at hlk
     simp only [List.all_cons,Bool.and_eq_true] at hall
     exact List.mem_cons_of_mem _ (ih (by simpa using hall.2) hlk)
  have h6:=List.all_eq_true.1 hall _ hmem
  simp only [Bool.and_eq_true] at h6
  exact ⟨ht,h5,h6.1⟩
theorem IterOk.of {gf:FuncId} {fn:Func} {c:Code} {ac:AC} {caps:List PVal} (hf:P.funcs[gf]? = some fn) (hname:(fn.name == "runtime.NumGoroutine") = false) (hb:fn.body = some c) (hac:transC P c = some ac) (hr:fn.results.toList = []) (hn:1 + caps.length ≤ fn.ntmps)
  (hcl:PVal.closed.go caps = true)
  (h : ∀ (l:Nat) (J:Nat → (Nat → Prop) → World → Prop),YieldOk P l xs J → IW P fn.ntmps J ac (fun e k s=>(e = .normal ∨ e = .ret) ∧ k = xs.length) 0 { env:=paramE 0 (.yld l :: caps),heap:=[],next:=0 }):IterOk P gf caps xs:=by
 refine ⟨enters_of hf hname hb,fun A w lb hA hgs hreps l J hY hJ=>?_⟩
 refine callsIn_of_wp (F:=Fence.wide) hf hb trivial (wpIn_mono (h l J hY c hac _ w ⟨A,w,fun _=>none,hJ,⟨⟨fun id o h=>by simp [St.h] at h,fun id B h=>by simp at h,fun id id' b t t' h=>by simp at h,fun id b t h=>by simp at h,fun id b t h=>by simp at h,fun b h=>.inr h,fun y hy=>⟨fun id t h=>(by cases h),hgs y hy⟩⟩,fun t p hp=>?_,rfl,?_⟩,Step.refl _ w⟩) ?_)
 ·obtain ⟨j,rfl,hj⟩:=bU hp
  rw [Nat.zero_add]
  have hl:lb.length = caps.length:=hreps.1.symm
  have hlt:j < 1 + lb.length:=by have:=(List.getElem?_eq_some_iff.1 hj).1; simp at this; omega
  cases j with
  | zero =>
   simp at hj
   subst hj
   exact ⟨_,by rw [Array.getElem?_append_left (by simp)]; simp,.yld⟩
  | succ j =>
   have hj':caps[j]? = some p:=by simpa using hj
   have hlj:j < lb.length:=by omega
   refine ⟨lb[j],?_,?_⟩
   ·rw [Array.getElem?_append_left (by simp; omega)]
    rw [Array.getElem?_append_right (by simp)]
    simp [hlj]
   ·exact (hreps.2 j p _ hj' (List.getElem?_eq_getElem hlj)).mono (fun _ _ _ hc=>hc) (fun b hb _=>⟨.inl hb,fun _ _ h=>by cases h⟩) (fun h=>h) (fun _ _ _ h=>h.elim) (fun _ _ _ h=>h.elim)
 ·have:=hreps.1
  simp
  omega
 ·rintro e a' w' ⟨k,st',⟨he,rfl⟩,B,Wp,m,hJ',hS',hst'⟩
  have key:a'.defers = [] ∧ ∃ v,(results fn a'.tmps).run P w' = .ok v w' ∧ ∃ v' B Wp,Ending.returned v = .returned v' ∧ J xs.length B Wp ∧ Ext Wp w':=by
   refine ⟨hS'.df,.tuple #[],?_,_,B,Wp,rfl,hJ',Ext.of hst'⟩
   have hre:fn.results = #[]:=by apply Array.ext'; simpa using hr
   unfold results
   rw [hre]
   simp [go_sem]
  rcases he with rfl | rfl
  ·exact key
  ·exact key
end
theorem F168lt1 {h:zv → Bool} : ∀ (l:List zv) (i:Nat) (r:Int),F168l1 h i l = .error r → ∃ j:Nat,r = (j:Int) ∧ i ≤ j ∧ j < i + l.length
  | [],i,r,e=>by simp [F168l1] at e
  | x :: l,i,r,e=>by
    unfold F168l1 at e
    try dsimp only at e
    cases hb:(h x) with
    | true =>
      rw [hb,cond_true] at e
      injection e with e
      exact ⟨i,e.symm,Nat.le_refl _,by simp⟩
    | false =>
      rw [hb,cond_false] at e
      obtain ⟨j,h1,h2,h3⟩:=F168lt1 l (i + 1) r e
      exact ⟨j,h1,by omega,by simp; omega⟩
theorem F168lt {l:List zv} {h:zv → Bool} {c:Int} (e:F168 l h = c) (hc:decide (c < 0) = false):c.toNat < l.length:=by
  unfold F168 at e
  rw [decide_eq_false_iff_not] at hc
  split at e
  · rename_i r hr
    obtain ⟨j,h1,h2,h3⟩:=F168lt1 l 0 r hr
    omega
  · omega
theorem F119lt1 {h:zx → Bool} : ∀ (l:List zx) (i:Nat) (r:Int),F119l1 h i l = .error r → ∃ j:Nat,r = (j:Int) ∧ i ≤ j ∧ j < i + l.length
  | [],i,r,e=>by simp [F119l1] at e
  | x :: l,i,r,e=>by
    unfold F119l1 at e
    try dsimp only at e
    cases hb:(h x) with
    | true =>
      rw [hb,cond_true] at e
      injection e with e
      exact ⟨i,e.symm,Nat.le_refl _,by simp⟩
    | false =>
      rw [hb,cond_false] at e
      obtain ⟨j,h1,h2,h3⟩:=F119lt1 l (i + 1) r e
      exact ⟨j,h1,by omega,by simp; omega⟩
theorem F119lt {l:List zx} {h:zx → Bool} {c:Int} (e:F119 l h = c) (hc:decide (c < 0) = false):c.toNat < l.length:=by
  unfold F119 at e
  rw [decide_eq_false_iff_not] at hc
  split at e
  · rename_i r hr
    obtain ⟨j,h1,h2,h3⟩:=F119lt1 l 0 r hr
    omega
  · omega
theorem f86_ok (t:qk):FnOk Tryz.prog 86 [.agg (qk.c t)] [] 0 (.fn 116 [] [.rptr (qk.c t)]) [] 0:=by
  refine FnOk.wk i86 rfl rfl ?_
  change WK _ _ _ [ac86] _ ⟨[(0,.agg (qk.c t))],[],0⟩
  unfold ac86
  refine ah qv ?_
  refine aw (v':=.ptr 0 0) (zj:=[(0,.box (qk.c t))]) (zk:=1) rfl rfl rfl rfl rfl rfl rfl ?_
  refine af rfl ?_
  refine aa ?_
  refine ah qv ?_
  refine ae (.fn 116 [] [.ptr 0 0]) ?_
  refine af rfl ?_
  refine aa ?_
  refine aj ?_
  exact ai [0] (.inr rfl) rfl rfl rfl rfl
theorem fY {t:qk} : ∀ {r:List qj} {l:List qj},livesL t r = some l → ∀ i,i < r.length → ∃ l1 x ok l2,livesL t (r.take i) = some l1 ∧ F117 t (r.getD i default) = some (x,ok) ∧ livesL t (r.take (i + 1)) = some (bif ok then l1 ++ [x] else l1) ∧ l = (bif ok then l1 ++ [x] else l1) ++ l2
  | [],l,h,i,hi=>by simp at hi
  | c :: r,l,h,i,hi=>by
    rw [livesL] at h
    cases hc:F117 t c with
    | none=>rw [hc] at h; cases h
    | some y =>
      obtain ⟨x,ok⟩:=y
      rw [hc] at h
      simp only at h
      cases hr:livesL t r with
      | none=>rw [hr] at h; cases h
      | some l' =>
        rw [hr] at h
        simp only at h
        injection h with h
        subst h
        cases i with
        | zero =>
          refine ⟨[],x,ok,l',rfl,hc,?_,?_⟩
          · simp only [Nat.zero_add,List.take_succ_cons,List.take_zero,livesL,hc]
            cases ok <;> rfl
          · cases ok <;> rfl
        | succ i =>
          obtain ⟨l1,x2,ok2,l2,h1,h2,h3,h4⟩:=fY hr i (by simpa using hi)
          refine ⟨bif ok then x :: l1 else l1,x2,ok2,l2,?_,by simpa using h2,?_,?_⟩
          · simp only [List.take_succ_cons,livesL,hc,h1]
          · rw [List.take_succ_cons,livesL,hc,h3]
            cases ok <;> cases ok2 <;> rfl
          · rw [h4]
            cases ok <;> cases ok2 <;> rfl
theorem livesL_full {t:qk} {r l:List qj} (h:livesL t r = some l):livesL t (r.take r.length) = some l:=by rw [List.take_length]; exact h
theorem iter116 (h117 : ∀ (t0:qk) (c1:qj) (R:qj × Bool),F117 t0 c1 = some R → FnOk Tryz.prog 117 [.agg (qk.c t0),.agg (qj.c c1)] [] 0 (.tup [.agg (qj.c R.1),.bool R.2]) [] 0) (t:qk) {l0:List qj} (hl0:livesL t t.L = some l0) :
    IterOk Tryz.prog 116 [.rptr (qk.c t)] (l0.map fun c=>.agg (qj.c c)):=by
  obtain ⟨c,hb,hac⟩ : ∃ c,Tryz.f116.body = some c ∧ transC Tryz.prog c = some ac116:=⟨_,rfl,by kernel_rfl⟩
  refine IterOk.of Tryz.func116 (by kernel_rfl) hb hac (by kernel_rfl) (Nat.le_of_ble_eq_true (by kernel_rfl)) rfl fun l J hY=>?_
  change IW Tryz.prog 28 J ac116 _ 0 ⟨[(0,.yld l),(1,.rptr (qk.c t))],[],0⟩
  unfold ac116
  refine IW.seq (IW.ofC (W.wk (az qv ?_)))
  refine ae (.rptr [.ro 10 (t.L.map qj.c)]) ?_
  refine ae (.ro 10 (t.L.map qj.c)) ?_
  refine ar (v':=.int .i64 (t.L.length:Int)) rfl rfl rfl rfl (ww _ _) ?_
  refine af rfl ?_
  refine aa (aB ?_)
  refine ⟨⟨[(0,.yld l),(1,.rptr (qk.c t)),(8,.ro 10 (t.L.map qj.c)),(9,.int .i64 (t.L.length:Int)),(10,.int .i64 ((0:Nat):Int))],[],0⟩,Conv.keep [] [] [0,1,8,9,10] rfl rfl (qx rfl rfl (qx rfl rfl (qx rfl rfl (qx rfl rfl (qx rfl rfl qy))))) rfl rfl,?_⟩
  show IW Tryz.prog 28 J (.block 0 (.loop ac116_1)) _ 0 _
  refine IW.block (IW.len (t:=8) rfl fun hlen=>?_)
  rw [List.length_map] at hlen
  refine IW.loop (fun f k s=>∃ i:Nat,i ≤ t.L.length ∧ f = t.L.length - i ∧ (∃ li,livesL t (t.L.take i) = some li ∧ k = li.length) ∧ s = ⟨[(0,.yld l),(1,.rptr (qk.c t)),(8,.ro 10 (t.L.map qj.c)),(9,.int .i64 (t.L.length:Int)),(10,.int .i64 (i:Int))],[],0⟩) t.L.length
    ⟨0,Nat.zero_le _,rfl,⟨[],by simp [livesL],rfl⟩,rfl⟩ ?_
  rintro f k s ⟨i,hi,rfl,⟨li,hli,rfl⟩,rfl⟩
  unfold ac116_1
  refine IW.seq (fy (W.wk (az qv ?_)))
  refine ae (.bool (decide ((i:Int) < (t.L.length:Int)))) ?_
  refine aa (aB ?_)
  show IW Tryz.prog 28 J _ _ _ _
  refine IW.seq ?_
  rcases qq (decide ((i:Int) < (t.L.length:Int))) with hb | hb
  · rw [hb]
    refine IW.cond (b:=false) rfl (fun h=>by cases h) (fun _=>?_)
    refine fy (W.exit ?_)
    have hi':i = t.L.length:=by have:=of_decide_eq_false hb; omega
    subst hi'
    rw [livesL_full hl0] at hli
    injection hli with hli
    subst hli
    show (Exit.normal = Exit.normal ∨ Exit.normal = Exit.ret) ∧ _ = _
    exact ⟨.inl rfl,by simp⟩
  · rw [hb]
    obtain ⟨x52,hx,hd,hlt⟩:=aR hb
    obtain ⟨l1,x,ok,l2,e1,e2,e3,e4⟩:=fY hl0 i hlt
    rw [hli] at e1
    injection e1 with e1
    subst e1
    have hx52:t.L.getD i default = x52:=by
      have:t.L[i]? = some x52:=by simpa using hx
      simp [List.getD,this]
    rw [hx52] at e2
    refine IW.cond (b:=true) rfl (fun _=>?_) (fun h=>by cases h)
    refine fy (W.skip ?_)
    show IW Tryz.prog 28 J _ _ _ _
    refine IW.seq (IW.block ?_)
    refine IW.seq (fy (W.wk (az qv ?_)))
    refine aZ (c:=qj.c) (x:=x52) rfl rfl rfl (Int.natCast_nonneg _) hx ?_
    refine ae (.agg (qj.c x52)) ?_
    refine aw (v':=.ptr 0 0) (zj:=[(0,.box [.int .u32 0,.int .i64 0,.int .i64 0,.int .i64 0,.int .i64 0,.int .i64 0,.int .u32 0,.bool false,.int .i64 0,.nils])]) (zk:=1) rfl rfl rfl rfl rfl rfl rfl ?_
    refine ay (zj:=[(0,.box (qj.c x52))]) (zk:=1) rfl rfl rfl rfl rfl ?_
    refine aa (aB ?_)
    show IW Tryz.prog 28 J _ _ _ _
    refine IW.seq (fy (W.wk (az qv ?_)))
    refine ae (.agg (qk.c t)) ?_
    refine ae (.agg (qj.c x52)) ?_
    refine av (r:=.tup [.agg (qj.c x),.bool ok]) rfl rfl rfl (h117 t x52 (x,ok) e2) rfl rfl ?_
    refine af rfl ?_
    refine ae (.agg (qj.c x)) ?_
    refine ae (.bool ok) ?_
    refine aw (v':=.ptr 1 0) (zj:=[(0,.box (qj.c x52)),(1,.box [.int .u32 0,.int .i64 0,.int .i64 0,.int .i64 0,.int .i64 0,.int .i64 0,.int .u32 0,.bool false,.int .i64 0,.nils])]) (zk:=2) rfl rfl rfl rfl rfl rfl rfl ?_
    refine ay (zj:=[(0,.box (qj.c x52)),(1,.box (qj.c x))]) (zk:=2) rfl rfl rfl rfl rfl ?_
    refine af rfl ?_
    refine aa (aB ?_)
    show IW Tryz.prog 28 J _ _ _ _
    refine IW.seq ?_
    cases ok with
    | false =>
      refine fy (W.wk (az qv ?_))
      refine af rfl ?_
      refine af rfl ?_
      iterate 4 refine ag rfl rfl ?_
      refine ae (.bool false) ?_
      refine aa (aB ?_)
      show IW Tryz.prog 28 J _ _ _ _
      refine IW.cond (b:=false) rfl (fun h=>by cases h) (fun _=>?_)
      refine fy (W.skip ?_)
      show IW Tryz.prog 28 J _ _ _ _
      refine IW.ofC (W.wk (az qv ?_))
      refine ar (v':=.int .i64 ((i + 1:Nat):Int)) rfl rfl rfl rfl (congrArg (PVal.int .i64) (aO hlt hlen)) ?_
      refine af rfl ?_
      refine aa (aB ?_)
      exact ⟨⟨[(0,.yld l),(1,.rptr (qk.c t)),(8,.ro 10 (t.L.map qj.c)),(9,.int .i64 (t.L.length:Int)),(10,.int .i64 ((i + 1:Nat):Int))],[],0⟩,Conv.keep [] [] [0,1,8,9,10] rfl rfl (qx rfl rfl (qx rfl rfl (qx rfl rfl (qx rfl rfl (qx rfl rfl qy))))) rfl rfl,
        t.L.length - (i + 1),by omega,i + 1,hlt,rfl,⟨_,e3,rfl⟩,rfl⟩
    | true =>
      have hk:(l0.map fun c=>PVal.agg (qj.c c))[li.length]? = some (.agg (qj.c x)):=by
        rw [e4]
        simp
      refine IW.regG (pre:=[⟨some 20,none,.mov,[.t 6]⟩,⟨some 21,none,.mov,[.t 20]⟩,⟨some 22,some (21,true),.mov,[.t 0]⟩,⟨some 23,some (21,true),.load (some 10),[.t 5]⟩]) (ao:=⟨some 24,some (21,true),.callv,[.t 22,.t 23]⟩) (post:=[⟨some 25,some (21,true),.unNot,[.t 24]⟩,⟨some 26,none,.pick,[.t 21,.t 25,.c (.bool false)]⟩]) hY rfl rfl rfl ?_
      refine af rfl ?_
      refine af rfl ?_
      refine af rfl ?_
      refine ae (.agg (qj.c x)) ?_
      refine aa ⟨.agg (qj.c x),[0,1,8,9,10,21],[(0,.yld l),(1,.rptr (qk.c t)),(8,.ro 10 (t.L.map qj.c)),(9,.int .i64 (t.L.length:Int)),(10,.int .i64 (i:Int)),(21,.bool true)],rfl,rfl,rfl,hk,rfl,rfl,?_⟩
      refine ae (.bool false) ?_
      refine ae (.bool false) ?_
      refine aa ?_
      show IW Tryz.prog 28 J _ _ _ _
      refine IW.cond (b:=false) rfl (fun h=>by cases h) (fun _=>?_)
      refine fy (W.skip ?_)
      show IW Tryz.prog 28 J _ _ _ _
      refine IW.ofC (W.wk (az qv ?_))
      refine ar (v':=.int .i64 ((i + 1:Nat):Int)) rfl rfl rfl rfl (congrArg (PVal.int .i64) (aO hlt hlen)) ?_
      refine af rfl ?_
      refine aa (aB ?_)
      exact ⟨⟨[(0,.yld l),(1,.rptr (qk.c t)),(8,.ro 10 (t.L.map qj.c)),(9,.int .i64 (t.L.length:Int)),(10,.int .i64 ((i + 1:Nat):Int))],[],0⟩,Conv.keep [] [] [0,1,8,9,10] rfl rfl (qx rfl rfl (qx rfl rfl (qx rfl rfl (qx rfl rfl (qx rfl rfl qy))))) rfl rfl,
        t.L.length - (i + 1),by omega,i + 1,hlt,rfl,⟨_,e3,by simp⟩,rfl⟩
def r36a:AC:=.reg []
    [⟨some 4,none,.alloc [.int .u32 0,.int .i64 0,.int .i64 0,.int .i64 0,.int .i64 0,.int .i64 0,.int .u32 0,.bool false,.int .i64 0,.nils],[]⟩,
     ⟨none,none,.store 10,[.t 4,.t 8]⟩]
def r36b:AC :=
  .block 1 (.seq (.reg []
    [⟨some 9,none,.load none,[.t 3]⟩,
     ⟨some 10,none,.lenL,[.t 9]⟩,
     ⟨some 11,none,.bin .sub .scal,[.t 10,.c (.int .i64 1)]⟩,
     ⟨some 5,none,.mov,[.t 11]⟩])
  (.block 2 (.seq (.reg [[],[0],[1],[2],[2],[3,4,2],[5,2],[6,2],[2],[8,2],[7,9,2],[2,10],[11,2]]
    [⟨some 13,none,.mov,[.t 5]⟩,
     ⟨some 14,none,.bin .lss .scal,[.t 13,.c (.int .i64 0)]⟩,
     ⟨some 15,none,.mov,[.t 14]⟩,
     ⟨some 16,some (15,false),.load none,[.t 3]⟩,
     ⟨some 17,some (15,false),.mov,[.t 5]⟩,
     ⟨some 18,some (15,false),.idxA 10,[.t 16,.t 17]⟩,
     ⟨some 19,some (15,false),.fldA 0,[.t 18]⟩,
     ⟨some 20,some (15,false),.load (some 2),[.t 19]⟩,
     ⟨some 21,some (15,false),.fldA 0,[.t 4]⟩,
     ⟨some 22,some (15,false),.load (some 2),[.t 21]⟩,
     ⟨some 23,some (15,false),.bin .neq (.flat [.int .u32,.int .i64]),[.t 20,.t 22]⟩,
     ⟨some 24,none,.pick,[.t 15,.c (.bool true),.t 23]⟩,
     ⟨some 12,none,.mov,[.t 24]⟩])
  (.cond (.t 12)
  (.reg []
    [⟨some 25,none,.load none,[.t 3]⟩,
     ⟨some 26,none,.load (some 10),[.t 4]⟩,
     ⟨some 27,none,.bslice 10 42,[.t 26]⟩,
     ⟨some 28,none,.append 10 42 88,[.t 25,.t 27]⟩,
     ⟨none,none,.store 1,[.t 3,.t 28]⟩])
  (.seq (.reg [[],[],[],[1,2],[3],[0,4],[5,5]]
    [⟨some 30,none,.load (some 10),[.t 4]⟩,
     ⟨some 31,none,.load none,[.t 3]⟩,
     ⟨some 32,none,.mov,[.t 5]⟩,
     ⟨some 33,none,.idxA 10,[.t 31,.t 32]⟩,
     ⟨some 34,none,.load (some 10),[.t 33]⟩,
     ⟨some 35,none,.call 87,[.t 30,.t 34]⟩,
     ⟨some 29,none,.mov,[.t 35]⟩])
  (.cond (.t 29)
  (.reg []
    [⟨some 36,none,.load none,[.t 3]⟩,
     ⟨some 37,none,.mov,[.t 5]⟩,
     ⟨some 38,none,.load (some 10),[.t 4]⟩,
     ⟨some 39,none,.idxA 10,[.t 36,.t 37]⟩,
     ⟨none,none,.store 10,[.t 39,.t 38]⟩])
  .skip))))))
theorem f44_shape : ∃ c0 c1 c2 ca cb c9,Tryz.f44.body = some (.seq c0 (.seq c1 (.seq (.seq c2 (.block 0 (.rangeFunc (.tmp 7) #[8] ca cb))) (.seq c9 .ret)))) ∧
    transC Tryz.prog c0 = some (.reg [] [⟨some 1,none,.box,[.t 0]⟩,⟨some 2,none,.mov,[.c .nils]⟩]) ∧ transC Tryz.prog c1 = some (.reg [] [⟨some 3,none,.alloc [.nils],[]⟩]) ∧
    transC Tryz.prog c2 = some (.reg [] [⟨some 6,none,.load (some 1),[.t 1]⟩,⟨some 7,none,.call 86,[.t 6]⟩]) ∧ transC Tryz.prog ca = some r36a ∧ transC Tryz.prog cb = some r36b ∧
    transC Tryz.prog c9 = some (.reg [] [⟨some 40,none,.load none,[.t 3]⟩,⟨some 2,none,.mov,[.t 40]⟩]) :=
  ⟨_,_,_,_,_,_,rfl,by kernel_rfl,by kernel_rfl,by kernel_rfl,by kernel_rfl,by kernel_rfl,by kernel_rfl⟩
def I36 (R:List qj) (liv:List qj) (k:Nat) (h:List (AId × AObj)) (nx:Nat):Prop :=
  (h = [(0,.box [.nils])] ∧ nx = 1 ∧ F44 [] (liv.drop k) = some R) ∨ ∃ row1:List qj,F44 row1 (liv.drop k) = some R ∧ h = [(0,.box [.own 1 10 0 row1.length]),(1,.row 10 42 (row1.map qj.c))] ∧ nx = 2
theorem round36 (h87 : ∀ (a0 b1:qj) (R:Bool),F87 a0 b1 = R → FnOk Tryz.prog 87 [.agg (qj.c a0),.agg (qj.c b1)] [] 0 (.bool R) [] 0) {R liv:List qj} {k:Nat} {x52:qj} {env:List (Nat × PVal)} (row1:List qj) (hx:liv.drop k = x52 :: liv.drop (k + 1)) (gg11:F44 row1 (liv.drop k) = some R) :
    WK Tryz.prog 41 1 [r36a,r36b] (fun e s=>∃ s',Conv 1 s s' ∧ e = .normal ∧ I36 R liv (k + 1) s'.heap s'.next) ⟨[(8,.agg (qj.c x52)),(3,.ptr 0 0),(7,.fn 116 [] env.unzip.2)],[(0,.box [.own 1 10 0 row1.length]),(1,.row 10 42 (row1.map qj.c))],2⟩:=by
  rw [hx,F44] at gg11
  unfold r36a
  refine az qv ?_
  refine aw (v':=.ptr 2 0) (zj:=[(0,.box [.own 1 10 0 row1.length]),(1,.row 10 42 (row1.map qj.c)),(2,.box [.int .u32 0,.int .i64 0,.int .i64 0,.int .i64 0,.int .i64 0,.int .i64 0,.int .u32 0,.bool false,.int .i64 0,.nils])]) (zk:=3) rfl rfl rfl rfl rfl rfl rfl ?_
  refine ay (zj:=[(0,.box [.own 1 10 0 row1.length]),(1,.row 10 42 (row1.map qj.c)),(2,.box (qj.c x52))]) (zk:=3) rfl rfl rfl rfl rfl ?_
  refine aa ?_
  unfold r36b
  refine aI (fun _ hK14=>?_)
  refine ah qv ?_
  refine ae (.own 1 10 0 row1.length) ?_
  refine ae (.int .i64 (row1.length:Int)) ?_
  refine ae (.int .i64 (IntKind.i64.wrap ((row1.length:Int) - 1))) ?_
  refine af rfl ?_
  refine aa ?_
  refine aI (fun _ hK15=>?_)
  refine ak ?_
  refine aE qv ?_
  refine aG rfl ?_
  refine au (.bool (decide (IntKind.i64.wrap ((row1.length:Int) - 1) < 0))) ?_
  refine aG rfl ?_
  rcases qq (decide (IntKind.i64.wrap ((row1.length:Int) - 1) < 0)) with hb16 | hb16
  ·rw [hb16]; try simp only [hb16,bb] at gg11
   refine au (.own 1 10 0 row1.length) ?_
   refine aG rfl ?_
   generalize hx916:getI row1 (IntKind.i64.wrap ((row1.length:Int) - 1)) = x916 at gg11
   rcases x916 with _ | x916
   ·try dsimp only at gg11
    cases gg11
   try dsimp only at gg11
   obtain ⟨hx9160,hx916j,hx916l,hx916⟩:=ky hx916
   refine aF (v':=.eptr 1 10 ((IntKind.i64.wrap ((row1.length:Int) - 1)).toNat) 0) rfl rfl rfl (aK (c:=qj.c) (L:=row1) (j:=(IntKind.i64.wrap ((row1.length:Int) - 1)).toNat) rfl hx916j hx916l (by first | (exact Nat.le_refl _) | (simp))) rfl ?_
   refine aF (v':=.eptr 1 10 ((IntKind.i64.wrap ((row1.length:Int) - 1)).toNat) 0) rfl rfl rfl (cy (c:=qj.c) (L:=row1) rfl (by first | (exact gk _) | (exact gl _) | (omega) | (((try simp only [decide_eq_true_eq,decide_eq_false_iff_not,Bool.not_eq_true,Bool.not_eq_false] at *); first | omega | (rw [aW (by omega) (by omega)]; omega) | (unfold min_ max_; (repeat' split) <;> first | omega | (rw [aW (by omega) (by omega)]; omega))))) rfl) rfl ?_
   refine aF (v':=.agg [.int .u32 x916.P.A,.int .i64 x916.P.N]) rfl rfl rfl (bf (c:=qj.c) (L:=row1) (x:=x916) rfl hx916 rfl) rfl ?_
   refine au (.ptr 2 0) ?_
   refine au (.agg [.int .u32 x52.P.A,.int .i64 x52.P.N]) ?_
   iterate 2 refine au (.bool (!(decide (x916.P.A = x52.P.A) && (decide (x916.P.N = x52.P.N) && true)))) ?_
   refine aG rfl ?_
   refine aH rfl ?_
   rcases qq (decide (x916.P.A = x52.P.A) && (decide (x916.P.N = x52.P.N) && true)) with hb18 | hb18
   ·rw [hb18]; try simp only [hb18,bb] at gg11
    refine ap rfl ?_
    refine az qv ?_
    refine ae (.own 1 10 0 row1.length) ?_
    refine ae (.agg (qj.c x52)) ?_
    refine aw (v':=.own 3 10 0 (([x52]:List qj)).length) (zj:=[(0,.box [.own 1 10 0 row1.length]),(1,.row 10 42 (row1.map qj.c)),(2,.box (qj.c x52)),(3,.row 10 42 (([x52]:List qj).map qj.c))]) (zk:=4) rfl rfl rfl rfl rfl rfl rfl ?_
    rcases qq (decide (row1.length < 1099511627776)) with hg19 | hg19
    ·simp only [hg19,bb] at gg11
     try dsimp only at gg11
     cases gg11
    simp only [hg19,bb] at gg11
    have hg19_:=of_decide_eq_true hg19
    refine gz (c:=qj.c) (L:=row1) (X:=([x52]:List qj)) (zj:=[(0,.box [.own 1 10 0 row1.length]),(2,.box (qj.c x52)),(3,.row 10 42 (([x52]:List qj).map qj.c)),(4,.row 10 42 ((row1 ++ ([x52]:List qj)).map qj.c))]) (zk:=5) rfl rfl rfl rfl (du rfl) (by first | (omega) | (assumption) | (((try simp only [List.length_append,List.length_cons,List.length_nil,List.length_map,decide_eq_true_eq,decide_eq_false_iff_not] at *) <;> omega)) | (exact hp0 _ (List.mem_of_getElem? (by assumption))) | (exact hp1 _ (List.mem_of_getElem? (by assumption))) | (exact hp2 _ (List.mem_of_getElem? (by assumption))) | (exact hp3 _ (List.mem_of_getElem? (by assumption))) | (exact hp4 _ (List.mem_of_getElem? (by assumption))) | (exact hp5 _ (List.mem_of_getElem? (by assumption)))) (by first | (omega) | (assumption) | (((try simp only [List.length_append,List.length_cons,List.length_nil,List.length_map,decide_eq_true_eq,decide_eq_false_iff_not] at *) <;> omega)) | (exact hp0 _ (List.mem_of_getElem? (by assumption))) | (exact hp1 _ (List.mem_of_getElem? (by assumption))) | (exact hp2 _ (List.mem_of_getElem? (by assumption))) | (exact hp3 _ (List.mem_of_getElem? (by assumption))) | (exact hp4 _ (List.mem_of_getElem? (by assumption))) | (exact hp5 _ (List.mem_of_getElem? (by assumption)))) rfl rfl rfl rfl ?_
    refine ay (zj:=[(0,.box [.own 4 10 0 (row1 ++ ([x52]:List qj)).length]),(2,.box (qj.c x52)),(3,.row 10 42 (([x52]:List qj).map qj.c)),(4,.row 10 42 ((row1 ++ ([x52]:List qj)).map qj.c))]) (zk:=5) rfl rfl rfl rfl rfl ?_
    refine aa ?_
    refine aB (am (hK15 _ ?_))
    refine aB (am (hK14 _ ?_))
    refine aB ?_
    exact ⟨⟨[],[(0,.box [.own 1 10 0 (row1 ++ ([x52]:List qj)).length]),(1,.row 10 42 ((row1 ++ ([x52]:List qj)).map qj.c))],2⟩,Conv.keep [0,4] [] [] rfl rfl rfl rfl rfl,rfl,.inr ⟨(row1 ++ ([x52]:List qj)),gg11,rfl,rfl⟩⟩
   ·rw [hb18]; try simp only [hb18,bb] at gg11
    refine aq rfl ?_
    refine ak ?_
    refine aE qv ?_
    refine au (.agg (qj.c x52)) ?_
    refine au (.own 1 10 0 row1.length) ?_
    refine aG rfl ?_
    refine aF (v':=.eptr 1 10 ((IntKind.i64.wrap ((row1.length:Int) - 1)).toNat) 0) rfl rfl rfl (aK (c:=qj.c) (L:=row1) (j:=(IntKind.i64.wrap ((row1.length:Int) - 1)).toNat) rfl hx916j hx916l (by first | (exact Nat.le_refl _) | (simp))) rfl ?_
    refine aF (v':=.agg (qj.c x916)) rfl rfl rfl (bf (c:=qj.c) (L:=row1) (x:=x916) rfl hx916 rfl) rfl ?_
    generalize hc35:F87 x52 x916 = c35 at gg11
    try dsimp only at gg11
    refine aL (r:=.bool c35) rfl rfl rfl (h87 x52 x916 _ hc35) rfl rfl ?_
    refine aG rfl ?_
    refine aH rfl ?_
    rcases qq (c35) with hb20 | hb20
    ·rw [hb20]; try simp only [hb20,bb] at gg11
     refine aq rfl ?_
     refine aA ?_
     refine aB (am (hK15 _ ?_))
     refine aB (am (hK14 _ ?_))
     refine aB ?_
     exact ⟨⟨[],[(0,.box [.own 1 10 0 row1.length]),(1,.row 10 42 (row1.map qj.c))],2⟩,Conv.keep [0,1] [] [] rfl rfl rfl rfl rfl,rfl,.inr ⟨row1,gg11,rfl,rfl⟩⟩
    ·rw [hb20]; try simp only [hb20,bb] at gg11
     refine ap rfl ?_
     refine az qv ?_
     refine ae (.own 1 10 0 row1.length) ?_
     refine af rfl ?_
     refine ae (.agg (qj.c x52)) ?_
     refine ar (v':=.eptr 1 10 ((IntKind.i64.wrap ((row1.length:Int) - 1)).toNat) 0) rfl rfl rfl (aK (c:=qj.c) (L:=row1) (j:=(IntKind.i64.wrap ((row1.length:Int) - 1)).toNat) rfl hx916j hx916l (by first | (exact Nat.le_refl _) | (simp))) rfl ?_
     refine ay (zj:=[(0,.box [.own 1 10 0 row1.length]),(1,.row 10 42 ((row1.set (IntKind.i64.wrap ((row1.length:Int) - 1)).toNat x52).map qj.c)),(2,.box (qj.c x52))]) (zk:=3) rfl rfl (bw (c:=qj.c) (L:=row1) (x:=x916) (x':=x52) rfl hx916 rfl rfl rfl rfl rfl) rfl rfl ?_
     refine aa ?_
     refine aB (am (hK15 _ ?_))
     refine aB (am (hK14 _ ?_))
     refine aB ?_
     exact ⟨⟨[],[(0,.box [.own 1 10 0 (row1.set (IntKind.i64.wrap ((row1.length:Int) - 1)).toNat x52).length]),(1,.row 10 42 ((row1.set (IntKind.i64.wrap ((row1.length:Int) - 1)).toNat x52).map qj.c))],2⟩,Conv.keep [0,1] [] [] rfl rfl rfl (kx rfl (bN (qz (br rfl (by simp)) qw)) (kx rfl rfl cE)) rfl,rfl,.inr ⟨(row1.set (IntKind.i64.wrap ((row1.length:Int) - 1)).toNat x52),gg11,rfl,rfl⟩⟩
  ·rw [hb16]; try simp only [hb16,bb] at gg11
   iterate 8 refine bE rfl rfl ?_
   refine au (.bool true) ?_
   refine aG rfl ?_
   refine aH rfl ?_
   refine ap rfl ?_
   refine az qv ?_
   refine ae (.own 1 10 0 row1.length) ?_
   refine ae (.agg (qj.c x52)) ?_
   refine aw (v':=.own 3 10 0 (([x52]:List qj)).length) (zj:=[(0,.box [.own 1 10 0 row1.length]),(1,.row 10 42 (row1.map qj.c)),(2,.box (qj.c x52)),(3,.row 10 42 (([x52]:List qj).map qj.c))]) (zk:=4) rfl rfl rfl rfl rfl rfl rfl ?_
   rcases qq (decide (row1.length < 1099511627776)) with hg21 | hg21
   ·simp only [hg21,bb] at gg11
    try dsimp only at gg11
    cases gg11
   simp only [hg21,bb] at gg11
   have hg21_:=of_decide_eq_true hg21
   refine gz (c:=qj.c) (L:=row1) (X:=([x52]:List qj)) (zj:=[(0,.box [.own 1 10 0 row1.length]),(2,.box (qj.c x52)),(3,.row 10 42 (([x52]:List qj).map qj.c)),(4,.row 10 42 ((row1 ++ ([x52]:List qj)).map qj.c))]) (zk:=5) rfl rfl rfl rfl (du rfl) (by first | (omega) | (assumption) | (((try simp only [List.length_append,List.length_cons,List.length_nil,List.length_map,decide_eq_true_eq,decide_eq_false_iff_not] at *) <;> omega)) | (exact hp0 _ (List.mem_of_getElem? (by assumption))) | (exact hp1 _ (List.mem_of_getElem? (by assumption))) | (exact hp2 _ (List.mem_of_getElem? (by assumption))) | (exact hp3 _ (List.mem_of_getElem? (by assumption))) | (exact hp4 _ (List.mem_of_getElem? (by assumption))) | (exact hp5 _ (List.mem_of_getElem? (by assumption)))) (by first | (omega) | (assumption) | (((try simp only [List.length_append,List.length_cons,List.length_nil,List.length_map,decide_eq_true_eq,decide_eq_false_iff_not] at *) <;> omega)) | (exact hp0 _ (List.mem_of_getElem? (by assumption))) | (exact hp1 _ (List.mem_of_getElem? (by assumption))) | (exact hp2 _ (List.mem_of_getElem? (by assumption))) | (exact hp3 _ (List.mem_of_getElem? (by assumption))) | (exact hp4 _ (List.mem_of_getElem? (by assumption))) | (exact hp5 _ (List.mem_of_getElem? (by assumption)))) rfl rfl rfl rfl ?_
   refine ay (zj:=[(0,.box [.own 4 10 0 (row1 ++ ([x52]:List qj)).length]),(2,.box (qj.c x52)),(3,.row 10 42 (([x52]:List qj).map qj.c)),(4,.row 10 42 ((row1 ++ ([x52]:List qj)).map qj.c))]) (zk:=5) rfl rfl rfl rfl rfl ?_
   refine aa ?_
   refine aB (am (hK15 _ ?_))
   refine aB (am (hK14 _ ?_))
   refine aB ?_
   exact ⟨⟨[],[(0,.box [.own 1 10 0 (row1 ++ ([x52]:List qj)).length]),(1,.row 10 42 ((row1 ++ ([x52]:List qj)).map qj.c))],2⟩,Conv.keep [0,4] [] [] rfl rfl rfl rfl rfl,rfl,.inr ⟨(row1 ++ ([x52]:List qj)),gg11,rfl,rfl⟩⟩
theorem f44_of (h117 : ∀ (t0:qk) (c1:qj) (R:qj × Bool),F117 t0 c1 = some R → FnOk Tryz.prog 117 [.agg (qk.c t0),.agg (qj.c c1)] [] 0 (.tup [.agg (qj.c R.1),.bool R.2]) [] 0)
    (h87 : ∀ (a0 b1:qj) (R:Bool),F87 a0 b1 = R → FnOk Tryz.prog 87 [.agg (qj.c a0),.agg (qj.c b1)] [] 0 (.bool R) [] 0) (t:qk) (R:List qj) (hR:allO t = some R):FnOk Tryz.prog 44 [.agg (qk.c t)] [] 0 (.ro 10 (R.map qj.c)) [] 0:=by
  unfold allO at hR
  cases hl0:livesL t t.L with
  | none=>rw [hl0] at hR; cases hR
  | some liv =>
    rw [hl0] at hR
    simp only at hR
    obtain ⟨c0,c1,c2,ca,cb,c9,hb,t0,t1,t2,ta,tb,t9⟩:=f44_shape
    refine FnOk.of_marks (fn:=Tryz.f44) (ts:=[.t 2]) Tryz.func44 (by kernel_rfl) hb (by kernel_rfl) (Nat.le_of_ble_eq_true (by kernel_rfl)) (Nat.le_refl 0) ?_
    intro m ok a w hS
    change Sim 41 [] (· < 0) m ok (St.e ⟨[(0,.agg (qk.c t))],[],0⟩) (St.h ⟨[(0,.agg (qk.c t))],[],0⟩) a w at hS
    have W0:W Tryz.prog 41 0 (.reg [] [⟨some 1,none,.box,[.t 0]⟩,⟨some 2,none,.mov,[.c .nils]⟩]) (fun e s=>e = .normal ∧ s = ⟨[(2,.nils),(1,.ptr 0 0),(0,.agg (qk.c t))],[(0,.box (qk.c t))],1⟩) ⟨[(0,.agg (qk.c t))],[],0⟩:=by
      refine W.wk (az qv ?_)
      refine aw (v':=.ptr 0 0) (zj:=[(0,.box (qk.c t))]) (zk:=1) rfl rfl rfl rfl rfl rfl rfl ?_
      refine af rfl ?_
      exact aa (aB ⟨rfl,rfl⟩)
    have W1:W Tryz.prog 41 0 (.reg [] [⟨some 3,none,.alloc [.nils],[]⟩]) (fun e s=>e = .normal ∧ s = ⟨[(3,.ptr 1 0),(2,.nils),(1,.ptr 0 0),(0,.agg (qk.c t))],[(0,.box (qk.c t)),(1,.box [.nils])],2⟩) ⟨[(2,.nils),(1,.ptr 0 0),(0,.agg (qk.c t))],[(0,.box (qk.c t))],1⟩:=by
      refine W.wk (az qv ?_)
      refine aw (v':=.ptr 1 0) (zj:=[(0,.box (qk.c t)),(1,.box [.nils])]) (zk:=2) rfl rfl rfl rfl rfl rfl rfl ?_
      exact aa (aB ⟨rfl,rfl⟩)
    have W2:W Tryz.prog 41 0 (.reg [] [⟨some 6,none,.load (some 1),[.t 1]⟩,⟨some 7,none,.call 86,[.t 6]⟩]) (fun e s=>∃ s',Conv 0 s s' ∧ e = .normal ∧ s' = ⟨[(3,.ptr 0 0),(7,.fn 116 [] [.rptr (qk.c t)])],[(0,.box [.nils])],1⟩)
        ⟨[(3,.ptr 1 0),(2,.nils),(1,.ptr 0 0),(0,.agg (qk.c t))],[(0,.box (qk.c t)),(1,.box [.nils])],2⟩:=by
      refine W.wk (az qv ?_)
      refine ae (.agg (qk.c t)) ?_
      refine av (r:=.fn 116 [] [.rptr (qk.c t)]) rfl rfl rfl (f86_ok t) rfl rfl ?_
      refine aa (aB ?_)
      exact ⟨_,Conv.keep [1] [] [3,7] rfl rfl (qx rfl rfl (qx rfl rfl qy)) rfl rfl,rfl,rfl⟩
    have key : ∀ (h:List (AId × AObj)) (nx:Nat),I36 R liv liv.length h nx → W Tryz.prog 41 0 (.seq (.reg [] [⟨some 40,none,.load none,[.t 3]⟩,⟨some 2,none,.mov,[.t 40]⟩]) .ret) (RetQ 0 [.t 2] (.ro 10 (R.map qj.c)) [] 0) ⟨[(3,.ptr 0 0),(7,.fn 116 [] [.rptr (qk.c t)])],h,nx⟩:=by
      have fin : ∀ row1:List qj,F44 row1 (liv.drop liv.length) = some R → WK Tryz.prog 41 0 [.seq (.reg [] [⟨some 40,none,.load none,[.t 3]⟩,⟨some 2,none,.mov,[.t 40]⟩]) .ret] (RetQ 0 [.t 2] (.ro 10 (R.map qj.c)) [] 0)
          ⟨[(3,.ptr 0 0),(7,.fn 116 [] [.rptr (qk.c t)])],[(0,.box [.own 1 10 0 row1.length]),(1,.row 10 42 (row1.map qj.c))],2⟩:=by
        intro row1 hrow
        rw [List.drop_length,F44] at hrow
        injection hrow with hrow
        subst hrow
        refine ah qv ?_
        refine ae (.own 1 10 0 row1.length) ?_
        refine af rfl ?_
        refine aa ?_
        refine aj ?_
        exact ai [1] (.inr rfl) rfl rfl (qz (aN rfl rfl) qw) rfl
      rintro h nx (⟨rfl,rfl,hrow⟩ | ⟨row1,hrow,rfl,rfl⟩)
      · refine W.wk (WK.adoptB (id:=0) (j:=0) (sz:=10) (ty:=42) (zj:=[(0,.box [.own 1 10 0 (([]:List qj)).length]),(1,.row 10 42 (([]:List qj).map qj.c))]) rfl rfl (by decide) (by simp) rfl ?_)
        exact fin [] hrow
      · exact W.wk (fin row1 hrow)
    refine wpIn_seq (wpIn_mono (W0 c0 t0 none [] m ok a w (Nat.le_refl _) hS) ?_)
    rintro e a1 w1 ⟨s1,m1,p1⟩
    obtain ⟨rfl,rfl⟩:=p1.q
    refine wpIn_seq (wpIn_mono (W1 c1 t1 none [] m1 ok a1 w1 (Nat.zero_le _) p1.sim) ?_)
    rintro e a2 w2 ⟨s2,m2,p2⟩
    obtain ⟨rfl,rfl⟩:=p2.q
    refine wpIn_seq (wpIn_seq (wpIn_mono (W.post W2 c2 t2 none [] m2 ok a2 w2 (Nat.zero_le _) p2.sim) ?_))
    rintro e a3 w3 ⟨s3,m3,p3⟩
    obtain ⟨rfl,rfl⟩:=p3.q
    refine wpIn_block ?_
    have hst3:Step m w m3 w3:=(p1.step.trans p2.step).trans p3.step
    have hM3:Mon (· < 0) m m3:=fun id h=>absurd h (Nat.not_lt_zero _)
    refine range_wp (n:=41) (st:=⟨[(3,.ptr 0 0),(7,.fn 116 [] [.rptr (qk.c t)])],[(0,.box [.nils])],1⟩) (tg:=7) (p:=8) p3.sim rfl rfl (iter116 h117 t hl0) ta tb (by decide) (I36 R liv) (.inl ⟨rfl,rfl,by simpa using hR⟩) ?_ ?_ ?_
    · rintro k h nx (⟨_,rfl,_⟩ | ⟨_,_,_,rfl⟩)
      · exact Nat.le_refl _
      · show (1:Nat) ≤ 2
        decide
    · intro k h nx x hI hx
      obtain ⟨x52,hx52,rfl⟩ : ∃ x52,liv[k]? = some x52 ∧ x = .agg (qj.c x52):=by
        rw [List.getElem?_map] at hx
        obtain ⟨c,h1,h2⟩:=Option.map_eq_some_iff.1 hx
        exact ⟨c,h1,h2.symm⟩
      have hlt:=(List.getElem?_eq_some_iff.1 hx52).1
      have hd:liv.drop k = x52 :: liv.drop (k + 1):=by
        rw [List.drop_eq_getElem_cons hlt]
        congr 1
        exact (List.getElem?_eq_some_iff.1 hx52).2
      have go : ∀ row1:List qj,F44 row1 (liv.drop k) = some R → WK Tryz.prog 41 1 [r36a,r36b] (fun e s=>∃ s',Conv 1 s s' ∧ e = .normal ∧ I36 R liv (k + 1) s'.heap s'.next) ⟨[(8,.agg (qj.c x52)),(3,.ptr 0 0),(7,.fn 116 [] [.rptr (qk.c t)])],[(0,.box [.own 1 10 0 row1.length]),(1,.row 10 42 (row1.map qj.c))],2⟩ :=
        fun row1 hrow=>round36 h87 (env:=[(0,.rptr (qk.c t))]) row1 hd hrow
      have hWK:WK Tryz.prog 41 1 [r36a,r36b] (fun e s=>∃ s',Conv 1 s s' ∧ e = .normal ∧ I36 R liv (k + 1) s'.heap s'.next) ⟨[(8,.agg (qj.c x52)),(3,.ptr 0 0),(7,.fn 116 [] [.rptr (qk.c t)])],h,nx⟩:=by
        rcases hI with ⟨rfl,rfl,hrow⟩ | ⟨row1,hrow,rfl,rfl⟩
        · refine WK.adoptB (id:=0) (j:=0) (sz:=10) (ty:=42) (zj:=[(0,.box [.own 1 10 0 (([]:List qj)).length]),(1,.row 10 42 (([]:List qj).map qj.c))]) rfl rfl (by decide) (by simp) rfl ?_
          exact go [] hrow
        · exact go row1 hrow
      refine W.mono hWK ?_
      intro e s hq
      cases e with
      | normal=>exact W.post (W.wk hq)
      | exit id=>obtain ⟨_,_,h,_⟩:=hq; cases h
      | goto id=>obtain ⟨_,_,h,_⟩:=hq; cases h
      | ret=>obtain ⟨_,_,h,_⟩:=hq; cases h
      | panic c=>obtain ⟨_,_,h,_⟩:=hq; cases h
      | outgrown=>obtain ⟨_,_,h,_⟩:=hq; cases h
    · intro h nx m4 w4 D hI4 hS4 hst4 hM4 hD hk hm
      rw [List.length_map] at hI4
      show (Code.seq c9 .ret).wpIn Fence.wide 0 Tryz.prog _ _ w4
      have ht:transC Tryz.prog (Code.seq c9 .ret) = some (.seq (.reg [] [⟨some 40,none,.load none,[.t 3]⟩,⟨some 2,none,.mov,[.t 40]⟩]) .ret):=by
        simp only [transC,t9]
      refine wpIn_mono (key h nx hI4 _ ht none [markD D] m4 ok _ w4 (Nat.zero_le _) hS4) ?_
      rintro e a5 w5 ⟨s5,m5,p5⟩
      have hlt:D < w4.heap.size:=(Array.getElem?_eq_some_iff.1 hk).1
      exact ⟨s5,m5,D,⟨p5.q,p5.sim,(hst3.trans hst4).trans p5.step,fun id h=>absurd h (Nat.not_lt_zero _),Nat.zero_le _⟩,by have:=hst3.size; omega,(p5.step.keep D hlt hm).trans hk,p5.step.avoid hlt hm⟩
end Go.Proofs.YtmfggjebbhdejaaGreat.Abs
