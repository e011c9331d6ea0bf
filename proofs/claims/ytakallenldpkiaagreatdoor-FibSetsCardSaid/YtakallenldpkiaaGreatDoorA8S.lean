/- Slice expressions: a part of a row, or of a string. Generic over any program. -/
import Derived.Test.YtakallenldpkiaaGreatDoorA8M
set_option linter.unusedVariables false
set_option linter.unusedSimpArgs false
set_option linter.unusedSectionVars false
namespace Go.Proofs.YtakallenldpkiaaGreatDoor.Abs
open Go
variable [DqC]
section
variable {P:Program} {o:Oper} {ρ:Operand → Value} {D:AId → Prop} {m:AId → Option Blk} {ok:Nat → Prop} {heap:AId → Option AObj} {w:World} {nx:AId} {r:R}
theorem Reps.one {c:Bool} {ps:List PVal} {v:Value} (h:Reps w ok D m c ps [v]) : ∃ p,ps = [p] ∧ Rep w ok D m c p v:=by
 match ps,h with
 | [p],h=>exact ⟨p,rfl,h.head⟩
 | [],h=>have:=h.1; simp at this
 | _ :: _ :: _,h=>have:=h.1; simp at this
theorem Reps.two {c:Bool} {ps:List PVal} {v u:Value} (h:Reps w ok D m c ps [v,u]) : ∃ p q,ps = [p,q] ∧ Rep w ok D m c p v ∧ Rep w ok D m c q u:=by
 match ps,h with
 | [p,q],h=>exact ⟨p,q,rfl,h.head,h.tail.head⟩
 | [],h=>have:=h.1; simp at this
 | [_],h=>have:=h.1; simp at this
 | _ :: _ :: _ :: _,h=>have:=h.1; simp at this
theorem Reps.three {c:Bool} {ps:List PVal} {v u x:Value} (h:Reps w ok D m c ps [v,u,x]) : ∃ p q s,ps = [p,q,s] ∧ Rep w ok D m c p v ∧ Rep w ok D m c q u ∧ Rep w ok D m c s x:=by
 match ps,h with
 | [p,q,s],h=>exact ⟨p,q,s,rfl,h.head,h.tail.head,h.tail.tail.head⟩
 | [],h=>have:=h.1; simp at this
 | [_],h=>have:=h.1; simp at this
 | [_,_],h=>have:=h.1; simp at this
 | _ :: _ :: _ :: _ :: _,h=>have:=h.1; simp at this
theorem run_sliceBound {k:IntKind} {i:Int} {y:Nat} {code:BoundsCode} (h0:0 ≤ i) (h1:i ≤ y):(Instr.sliceBound (.int k i) y code).run P w = .ok i.toNat w:=by
 unfold Instr.sliceBound
 simp [asIntOf,h0,h1]
theorem sbnd_run {lo hi:Option Operand} {len l u:Nat} {bs:List PVal} (hs:sbnd lo.isSome hi.isSome len bs = some (l,u)) (hx:Reps w (okn ok m) D m false bs ((lo.toList ++ hi.toList).map ρ)) :
  l ≤ u ∧ u ≤ len ∧ ∀ (b:Bool) (cap:Nat),len ≤ cap → (Instr.sliceBounds b len cap (lo.map ρ) (hi.map ρ) none).run P w = .ok (l,u,cap) w:=by
 cases lo with
 | none =>
  cases hi with
  | none =>
   obtain rfl:bs = []:=List.eq_nil_of_length_eq_zero hx.1
   simp only [sbnd,Option.isSome_none,Option.some.injEq,Prod.mk.injEq] at hs
   obtain ⟨rfl,rfl⟩:=hs
   refine ⟨Nat.zero_le _,Nat.le_refl _,fun b cap hc=>?_⟩
   simp [Instr.sliceBounds]
  | some hi =>
   obtain ⟨p,rfl,hp⟩:=hx.one
   cases p <;> simp only [sbnd,Option.isSome_none,Option.isSome_some] at hs <;> try (cases hs; done)
   rename_i k i
   split at hs
   ·rename_i hb
    simp only [Option.some.injEq,Prod.mk.injEq] at hs
    obtain ⟨rfl,rfl⟩:=hs
    refine ⟨Nat.zero_le _,by omega,fun b cap hc=>?_⟩
    have hv:=rep_int hp
    simp only [Instr.sliceBounds,Option.map_some,Option.map_none,hv,Sem.run_bind,Sem.run_pure,Result.andThen_ok]
    rw [run_sliceBound hb.1 (by omega)]
    simp
   ·cases hs
 | some lo =>
  cases hi with
  | none =>
   obtain ⟨p,rfl,hp⟩:=hx.one
   cases p <;> simp only [sbnd,Option.isSome_none,Option.isSome_some] at hs <;> try (cases hs; done)
   rename_i k i
   split at hs
   ·rename_i hb
    simp only [Option.some.injEq,Prod.mk.injEq] at hs
    obtain ⟨rfl,rfl⟩:=hs
    refine ⟨by omega,Nat.le_refl _,fun b cap hc=>?_⟩
    have hv:=rep_int hp
    simp only [Instr.sliceBounds,Option.map_some,Option.map_none,hv,Sem.run_bind,Sem.run_pure,Result.andThen_ok]
    rw [run_sliceBound hb.1 (by omega)]
    simp
   ·cases hs
  | some hi =>
   obtain ⟨p,q,rfl,hp,hq⟩:=hx.two
   cases p <;> cases q <;> simp only [sbnd,Option.isSome_some] at hs <;> try (cases hs; done)
   rename_i k i k' j
   split at hs
   ·rename_i hb
    simp only [Option.some.injEq,Prod.mk.injEq] at hs
    obtain ⟨rfl,rfl⟩:=hs
    refine ⟨by omega,by omega,fun b cap hc=>?_⟩
    have hv:=rep_int hp
    have hv':=rep_int hq
    simp only [Instr.sliceBounds,Option.map_some,hv,hv',Sem.run_bind,Sem.run_pure,Result.andThen_ok]
    rw [run_sliceBound (by omega) (by omega)]
    simp only [Result.andThen_ok,Sem.run_bind]
    rw [run_sliceBound hb.1 (by omega)]
    simp
   ·cases hs
theorem sbndC_run {lo hi:Option Operand} {len cap l u:Nat} {bs:List PVal} (hs:sbndC lo.isSome hi.isSome len cap bs = some (l,u)) (hlc:len ≤ cap) (hx:Reps w (okn ok m) D m false bs ((lo.toList ++ hi.toList).map ρ)) :
  l ≤ u ∧ u ≤ cap ∧ ∀ (b:Bool),(Instr.sliceBounds b len cap (lo.map ρ) (hi.map ρ) none).run P w = .ok (l,u,cap) w:=by
 cases lo with
 | none =>
  cases hi with
  | none=>simp [sbndC] at hs
  | some hi =>
   obtain ⟨p,rfl,hp⟩:=hx.one
   cases p <;> simp only [sbndC,Option.isSome_none,Option.isSome_some] at hs <;> try (cases hs; done)
   rename_i k i
   split at hs
   ·rename_i hb
    simp only [Option.some.injEq,Prod.mk.injEq] at hs
    obtain ⟨rfl,rfl⟩:=hs
    refine ⟨Nat.zero_le _,by omega,fun b=>?_⟩
    have hv:=rep_int hp
    simp only [Instr.sliceBounds,Option.map_some,Option.map_none,hv,Sem.run_bind,Sem.run_pure,Result.andThen_ok]
    rw [run_sliceBound hb.1 (by omega)]
    simp
   ·cases hs
 | some lo =>
  cases hi with
  | none =>
   obtain ⟨p,rfl,hp⟩:=hx.one
   cases p <;> simp only [sbndC,Option.isSome_none,Option.isSome_some] at hs <;> try (cases hs; done)
   rename_i k i
   split at hs
   ·rename_i hb
    simp only [Option.some.injEq,Prod.mk.injEq] at hs
    obtain ⟨rfl,rfl⟩:=hs
    refine ⟨by omega,hlc,fun b=>?_⟩
    have hv:=rep_int hp
    simp only [Instr.sliceBounds,Option.map_some,Option.map_none,hv,Sem.run_bind,Sem.run_pure,Result.andThen_ok]
    rw [run_sliceBound hb.1 (by omega)]
    simp
   ·cases hs
  | some hi =>
   obtain ⟨p,q,rfl,hp,hq⟩:=hx.two
   cases p <;> cases q <;> simp only [sbndC,Option.isSome_some] at hs <;> try (cases hs; done)
   rename_i k i k' j
   split at hs
   ·rename_i hb
    simp only [Option.some.injEq,Prod.mk.injEq] at hs
    obtain ⟨rfl,rfl⟩:=hs
    refine ⟨by omega,by omega,fun b=>?_⟩
    have hv:=rep_int hp
    have hv':=rep_int hq
    simp only [Instr.sliceBounds,Option.map_some,hv,hv',Sem.run_bind,Sem.run_pure,Result.andThen_ok]
    rw [run_sliceBound (by omega) (by omega)]
    simp only [Result.andThen_ok,Sem.run_bind]
    rw [run_sliceBound hb.1 (by omega)]
    simp
   ·cases hs
theorem exec_slice {t e:TypeId} {x:Operand} {lo hi:Option Operand} {ti:TypeInfo} {A:Option Addr} {n cap l u:Nat} (h:o.op = .slice t x lo hi none) (ht:P.underlying t = some (.slice e)) (hi':P.info? e = some ti) (hx:ρ x = .slice A n cap)
  (hb:(Instr.sliceBounds true n cap (lo.map ρ) (hi.map ρ) none).run P w = .ok (l,u,cap) w):(execOp ρ o).run P w = .ok (.value (.slice (if cap = l then A else A.map (·.add (l * ti.size))) (u - l) (cap - l))) w:=by
 unfold execOp
 simp only [h,hx]
 simp only [Instr.sliceAt,Instr.slice,Sem.run_bind,run_underlying ht,Result.andThen_ok,Option.map_none,hb,run_sizeOf hi',Sem.run_pure]
theorem core_slice {t e:TypeId} {x:Operand} {lo hi:Option Operand} {ti:TypeInfo} {ps:List PVal} (h:o.op = .slice t x lo hi none) (ht:P.underlying t = some (.slice e)) (hi':P.info? e = some ti) (hH:SimH D m ok heap w)
  (hx:Reps w (okn ok m) D m false ps ((x :: (lo.toList ++ hi.toList)).map ρ)) (hc:core (.slice ti.size lo.isSome hi.isSome) ps heap nx = some r):Out P o ρ D m ok heap w r:=by
 have hps : ∃ p bs,ps = p :: bs:=by
  cases ps with
  | nil=>have:=hx.1; simp at this
  | cons p bs=>exact ⟨p,bs,rfl⟩
 obtain ⟨p,bs,rfl⟩:=hps
 skip
 ·have hp:=hx.head
  have hbs:=hx.tail
  cases p <;> simp only [core] at hc <;> try (cases hc; done)
  case nils =>
   split at hc
   ·rename_i lu hs
    obtain ⟨l,u⟩:=lu
    injection hc with hc
    subst hc
    obtain ⟨h1,h2,h3⟩:=sbnd_run (P:=P) hs hbs
    have:=exec_slice (P:=P) (w:=w) h ht hi' (rep_nils hp) (h3 true 0 (Nat.le_refl _))
    obtain rfl:u = 0:=by omega
    obtain rfl:l = 0:=by omega
    exact Out.pure hH _ this .nils
   ·cases hc
  case ro sz es =>
   split at hc
   ·rename_i lu l u hs
    split at hc
    ·rename_i hsz
     subst hsz
     injection hc with hc
     subst hc
     obtain ⟨h1,h2,h3⟩:=sbnd_run (P:=P) hs hbs
     generalize hv:ρ x = v at hp
     cases hp with
     | ro vs hn hcp hml hsz hA hcell hr =>
      rename_i A n cap ad
      subst hn
      refine Out.pure hH _ (exec_slice (P:=P) (w:=w) h ht hi' hv (h3 true cap hcp)) ?_
      have hget : ∀ (i j:Nat) (e:List PVal) (p:PVal),((es.drop l).take (u - l))[i]? = some e → e[j]? = some p → i < u - l ∧ es[l + i]? = some e:=by
       intro i j e p he hp'
       refine ⟨?_,?_⟩
       ·have:=(List.getElem?_eq_some_iff.1 he).1
        simp at this
        omega
       ·have:=get_of_take he
        rwa [List.getElem?_drop] at this
      refine .ro (ad:=ad.add (l * ti.size)) (fun i j=>vs (l + i) j) (by simp; omega) (by omega) (by omega) (fun e he=>hsz e (List.mem_of_mem_drop (List.mem_of_mem_take he))) (fun hn=>?_) (fun i j e p he hp'=>?_) (fun i j e p he hp'=>?_)
      ·rw [hA (by omega),if_neg (by omega)]
       rfl
      ·obtain ⟨hi2,he2⟩:=hget i j e p he hp'
       obtain ⟨q1,q2,q3⟩:=hcell (l + i) j e p he2 hp'
       refine ⟨?_,?_,q3⟩
       ·rw [Addr.add_block]; exact q1
       ·rw [← q2]
        congr 1
        rw [add_add']
        congr 1
        rw [Nat.add_mul]; omega
      ·obtain ⟨hi2,he2⟩:=hget i j e p he hp'
       exact hr (l + i) j e p he2 hp'
    ·cases hc
   ·cases hc
  case own id sz s n =>
   cases ho:heap id with
   | none=>simp [ho] at hc
   | some ob =>
    cases ob <;> simp only [ho] at hc <;> try (cases hc; done)
    case row sz'' ty es =>
     split at hc
     ·rename_i lu l u hs
      split at hc
      ·rename_i hsz
       obtain ⟨hz1,hz2⟩:=hsz
       subst hz1
       injection hc with hc
       subst hc
       obtain ⟨h1,h2,h3⟩:=sbnd_run (P:=P) hs hbs
       obtain ⟨B,hB,hob⟩:=hH.obj id _ ho
       generalize hv:ρ x = v at hp
       cases hp with
       | own hd h1' hp =>
        have hov:=hp B hB
        cases B with
        | nil =>
         obtain ⟨⟨A0,rfl⟩,rfl,rfl⟩:=hov
         have:=exec_slice (P:=P) (w:=w) h ht hi' hv (h3 true 0 (Nat.le_refl _))
         obtain rfl:u = 0:=by omega
         obtain rfl:l = 0:=by omega
         refine Out.pure hH _ this (.own hd rfl fun B' hB'=>?_)
         rw [hB] at hB'
         injection hB' with hB'
         subst hB'
         exact ⟨⟨A0,by simp⟩,rfl,rfl⟩
        | «at» b tot =>
         obtain ⟨a,cap,rfl,ha1,ha2,ha3,hn,hcap,hmx⟩:=hov
         refine Out.pure hH _ (exec_slice (P:=P) (w:=w) h ht hi' hv (h3 true cap hn)) (.own hd ?_ fun B' hB'=>?_)
         ·rfl
         ·rw [hB] at hB'
          injection hB' with hB'
          subst hB'
          by_cases hcl:cap = l
          ·subst hcl
           rw [if_pos rfl]
           refine ⟨a,0,by rw [Nat.sub_self],ha1,ha2,?_,by omega,by omega,hmx⟩
           by_cases h0:0 < s + cap
           ·exact .inr ⟨rfl,h0⟩
           ·rcases ha3 with h' | ⟨_,h'⟩
            ·left
             have e1:s + cap = s:=by omega
             rw [h',e1]
            ·omega
          ·rw [if_neg hcl]
           refine ⟨a.add (l * ti.size),cap - l,rfl,by rw [Addr.add_block]; exact ha1,?_,?_,by omega,by omega,hmx⟩
           ·unfold Addr.add; split
            ·exact ha2
            ·rfl
           ·left
            have hoff:a.off = s * ti.size:=by
             rcases ha3 with h' | ⟨h',_⟩
             ·exact h'
             ·omega
            have:(a.add (l * ti.size)).off = a.off + l * ti.size:=by
             unfold Addr.add; split
             ·omega
             ·rfl
            rw [this,hoff,Nat.add_mul]
      ·cases hc
     ·cases hc
    case full sz'' ty es =>
     split at hc
     ·rename_i lu l u hs
      split at hc
      ·rename_i hsz
       obtain ⟨hz1,hz2,hz3⟩:=hsz
       subst hz1
       injection hc with hc
       subst hc
       obtain ⟨B,hB,hob⟩:=hH.obj id _ ho
       generalize hv:ρ x = v at hp
       cases hp with
       | own hd h1' hp =>
        have hov:=hp B hB
        cases B with
        | nil =>
         obtain ⟨⟨A0,rfl⟩,rfl,rfl⟩:=hov
         obtain ⟨he0,_⟩:=hob
         subst he0
         obtain ⟨h1,h2,h3⟩:=sbndC_run (P:=P) hs (by simp) hbs
         have:=exec_slice (P:=P) (w:=w) h ht hi' hv (h3 true)
         have h2:u ≤ 0:=by simpa using h2
         obtain rfl:u = 0:=by omega
         obtain rfl:l = 0:=by omega
         refine Out.pure hH _ this (.own hd rfl fun B' hB'=>?_)
         rw [hB] at hB'
         injection hB' with hB'
         subst hB'
         exact ⟨⟨A0,by simp⟩,rfl,rfl⟩
        | «at» b tot =>
         obtain ⟨a,cap,rfl,ha1,ha2,ha3,hn,hcap,hmx⟩:=hov
         obtain ⟨_,_,_,hel,_⟩:=hob
         have hce:es.length - s = cap:=by omega
         rw [hce] at hs
         obtain ⟨h1,h2,h3⟩:=sbndC_run (P:=P) hs hn hbs
         refine Out.pure hH _ (exec_slice (P:=P) (w:=w) h ht hi' hv (h3 true)) (.own hd ?_ fun B' hB'=>?_)
         ·rfl
         ·rw [hB] at hB'
          injection hB' with hB'
          subst hB'
          by_cases hcl:cap = l
          ·subst hcl
           rw [if_pos rfl]
           refine ⟨a,0,by rw [Nat.sub_self],ha1,ha2,?_,by omega,by omega,hmx⟩
           by_cases h0:0 < s + cap
           ·exact .inr ⟨rfl,h0⟩
           ·rcases ha3 with h' | ⟨_,h'⟩
            ·left
             have e1:s + cap = s:=by omega
             rw [h',e1]
            ·omega
          ·rw [if_neg hcl]
           refine ⟨a.add (l * ti.size),cap - l,rfl,by rw [Addr.add_block]; exact ha1,?_,?_,by omega,by omega,hmx⟩
           ·unfold Addr.add; split
            ·exact ha2
            ·rfl
           ·left
            have hoff:a.off = s * ti.size:=by
             rcases ha3 with h' | ⟨h',_⟩
             ·exact h'
             ·omega
            have:(a.add (l * ti.size)).off = a.off + l * ti.size:=by
             unfold Addr.add; split
             ·omega
             ·rfl
            rw [this,hoff,Nat.add_mul]
      ·cases hc
     ·cases hc
theorem core_sliceS {t:TypeId} {x:Operand} {lo hi:Option Operand} {ps:List PVal} (h:o.op = .slice t x lo hi none) (ht:P.underlying t = some .string) (hH:SimH D m ok heap w)
  (hx:Reps w (okn ok m) D m false ps ((x :: (lo.toList ++ hi.toList)).map ρ)) (hc:core (.sliceS lo.isSome hi.isSome) ps heap nx = some r):Out P o ρ D m ok heap w r:=by
 have hps : ∃ p bs,ps = p :: bs:=by
  cases ps with
  | nil=>have:=hx.1; simp at this
  | cons p bs=>exact ⟨p,bs,rfl⟩
 obtain ⟨p,bs,rfl⟩:=hps
 skip
 ·have hp:=hx.head
  have hbs:=hx.tail
  cases p <;> simp only [core] at hc <;> try (cases hc; done)
  case str s =>
   split at hc
   ·rename_i lu l u hs
    injection hc with hc
    subst hc
    obtain ⟨h1,h2,h3⟩:=sbnd_run (P:=P) hs hbs
    refine Out.pure hH _ (v:=.string (s.extract l u)) ?_ .str
    unfold execOp
    simp only [h,rep_str hp]
    simp only [Instr.sliceAt,Instr.slice,Sem.run_bind,run_underlying ht,Result.andThen_ok,Option.map_none,Option.isSome_none,Bool.false_eq_true,if_false,h3 false s.size (Nat.le_refl _),Sem.run_pure]
   ·cases hc
theorem core_sliceZ {t e:TypeId} {x hi mx:Operand} {ti:TypeInfo} {ps:List PVal} (h:o.op = .slice t x none (some hi) (some mx)) (ht:P.underlying t = some (.slice e)) (hi':P.info? e = some ti) (hpos:0 < ti.size) (hH:SimH D m ok heap w) (hnx : ¬ D nx)
  (hx:Reps w (okn ok m) D m false ps ([x,hi,mx].map ρ)) (hc:core (.sliceZ ti.size e) ps heap nx = some r):Out P o ρ D m ok heap w r:=by
 obtain ⟨p,q,s,rfl,hp,hq,hs⟩:=hx.three
 have main : ∀ (A:Option Addr) (n cap:Nat),ρ x = .slice A n cap → ∀ k k',ρ hi = .int k 0 → ρ mx = .int k' 0 → Out P o ρ D m ok heap w { v:=.own nx ti.size 0 0,wh:=[(nx,some (.row ti.size e []))],nw:=[nx] }:=by
  intro A n cap hv k k' hk hk'
  have hrun:(execOp ρ o).run P w = .ok (.value (.slice A 0 0)) w:=by
   unfold execOp
   simp only [h,hv]
   simp only [Instr.sliceAt,Instr.slice,Sem.run_bind,run_underlying ht,Result.andThen_ok,Option.map_none,Option.map_some,hk,hk',Instr.sliceBounds]
   rw [run_sliceBound (by omega) (by omega)]
   simp only [Result.andThen_ok,Sem.run_bind,Int.toNat_zero]
   rw [run_sliceBound (by omega) (by omega)]
   simp [run_sizeOf hi']
  obtain ⟨g1,g2,g3⟩:=hH.reloc (w':=w) none nx .nil (.row ti.size e []) rfl (Tp.refl w) rfl (Nat.le_refl _) (fun b hb hn=>rfl) (.inr hnx) (fun b t' e=>by cases e) (fun hst=>⟨rfl,hpos⟩)
  refine ⟨_,w,(fun i=>D i ∨ i = nx),_,.inl hrun,?_,g2,.own (.inr rfl) rfl fun B' hB'=>?_,fun i=>by simp,g3⟩
  ·rw [happ_one]; simpa using g1
  ·simp only [if_true,Option.some.injEq] at hB'
   subst hB'
   exact ⟨⟨A,rfl⟩,rfl,rfl⟩
 cases p <;> (try simp only [core] at hc) <;> try (cases hc; done)
 all_goals cases q <;> (try simp only [core] at hc) <;> try (cases hc; done)
 all_goals cases s <;> (try simp only [core] at hc) <;> try (cases hc; done)
 all_goals
  split at hc
  ·rename_i hb
   obtain ⟨rfl,rfl⟩:=hb
   injection hc with hc
   subst hc
   first
    | exact main _ _ _ (rep_nils hp) _ _ (rep_int hq) (rep_int hs)
    | (obtain ⟨A,n,cap,e1,_⟩:=ro_elem hp; exact main _ _ _ e1 _ _ (rep_int hq) (rep_int hs))
  ·cases hc
theorem core_slice3 {t e:TypeId} {x lo hi mx:Operand} {ti:TypeInfo} {ps:List PVal} (h:o.op = .slice t x (some lo) (some hi) (some mx)) (ht:P.underlying t = some (.slice e)) (hi':P.info? e = some ti) (hH:SimH D m ok heap w)
  (hx:Reps w (okn ok m) D m false ps ([x,lo,hi,mx].map ρ)) (hc:core (.slice3 ti.size) ps heap nx = some r):Out P o ρ D m ok heap w r:=by
 obtain ⟨p,ps,rfl⟩ : ∃ p ps',ps = p :: ps':=by
  cases ps with
  | nil=>have:=hx.1; simp at this
  | cons p ps=>exact ⟨p,ps,rfl⟩
 have hp:=hx.head
 obtain ⟨a,b,c,rfl,ha,hb,hcc⟩:=hx.tail.three
 cases p <;> (try simp only [core] at hc) <;> try (cases hc; done)
 cases a <;> (try simp only [core] at hc) <;> try (cases hc; done)
 cases b <;> (try simp only [core] at hc) <;> try (cases hc; done)
 cases c <;> (try simp only [core] at hc) <;> try (cases hc; done)
 rename_i id sz' s n k1 l k2 u k3 y
 cases ho:heap id with
 | none=>simp [ho] at hc
 | some ob =>
  cases ob <;> simp only [ho] at hc <;> try (cases hc; done)
  split at hc
  ·rename_i hb'
   obtain ⟨b1,b2,b3,b4⟩:=hb'
   injection hc with hc
   subst hc
   obtain ⟨B,hB,hob⟩:=hH.obj id _ ho
   obtain ⟨A,cap,hv,hnc⟩ : ∃ A cap,ρ x = .slice A n cap ∧ n ≤ cap:=by
    generalize ρ x = v at hp
    cases hp with
    | own hd h1' hp =>
     have:=hp B hB
     cases B with
     | nil=>obtain ⟨⟨A,e⟩,_,e3⟩:=this; exact ⟨A,0,by rw [e,e3],by omega⟩
     | «at» b t=>obtain ⟨a,cap,e,_,_,_,e3,_⟩:=this; exact ⟨some a,cap,e,e3⟩
   have e1:=rep_int ha
   have e2:=rep_int hb
   have e3:=rep_int hcc
   refine Out.pure hH _ (v:=.slice (if y.toNat = l.toNat then A else A.map (·.add (l.toNat * ti.size))) (u.toNat - l.toNat) (y.toNat - l.toNat)) ?_ .undef
   unfold execOp
   simp only [h,hv]
   simp only [Instr.sliceAt,Instr.slice,Sem.run_bind,run_underlying ht,Result.andThen_ok,Option.map_some,e1,e2,e3,Instr.sliceBounds]
   rw [run_sliceBound (by omega) (by omega)]
   simp only [Result.andThen_ok,Sem.run_bind]
   rw [run_sliceBound (by omega) (by omega)]
   simp only [Result.andThen_ok,Sem.run_bind]
   rw [run_sliceBound (by omega) (by omega)]
   simp only [Result.andThen_ok,Sem.run_bind,Sem.run_pure,run_sizeOf hi']
  ·cases hc
end
end Go.Proofs.YtakallenldpkiaaGreatDoor.Abs
