/- Each operation of the abstract machine is what the model's operation does: the rest of the operations. Generic over any program. -/
import Derived.Test.YtakallenldpkiaaGreatDoorA4
import Derived.ChangeKeysEq
set_option linter.unusedVariables false
set_option linter.unusedSimpArgs false
set_option linter.unusedSectionVars false
namespace Go.Proofs.YtakallenldpkiaaGreatDoor.Abs
open Go
variable [DqC]
section
variable {P:Program} {o:Oper} {ρ:Operand → Value} {D:AId → Prop} {m:AId → Option Blk} {ok:Nat → Prop} {heap:AId → Option AObj} {w:World} {nx:AId} {r:R}
def leafVal:PVal → Value
 | .int k n=>.int k n
 | .bool b=>.bool b
 | .str s=>.string s
 | _=>undef
theorem leaf_of {c:Bool} {k:LK} {p:PVal} {v:Value} (h:Rep w ok D m c p v) (hk:leafIs k p = true):v = leafVal p:=by
 cases k <;> cases p <;> simp [leafIs] at hk <;> cases h <;> rfl
def tv (P:Program) (t:TypeId) (ps:List PVal):Value:=if ((P.underlying t).map isAggD).getD false then .agg (ps.map leafVal).toArray else leafVal (ps.headD .undef)
theorem flatEq_len : ∀ {ks:List LK} {ps qs:List PVal} {b:Bool},flatEq ks ps qs = some b → ps.length = ks.length ∧ qs.length = ks.length
 | [],[],[],_,_=>⟨rfl,rfl⟩
 | [],_ :: _,_,_,h=>by simp [flatEq] at h
 | [],[],_ :: _,_,h=>by simp [flatEq] at h
 | _ :: _,[],_,_,h=>by simp [flatEq] at h
 | _ :: _,_ :: _,[],_,h=>by simp [flatEq] at h
 | k :: ks,p :: ps,q :: qs,b,h=>by
  simp only [flatEq] at h
  split at h
  ·split at h
   ·rename_i a b' h1 h2
    obtain ⟨e1,e2⟩:=flatEq_len h2
    exact ⟨by simp [e1],by simp [e2]⟩
   ·cases h
  ·cases h
theorem flatEq_append : ∀ {ks ls:List LK} {ps qs:List PVal} {b:Bool},flatEq (ks ++ ls) ps qs = some b →
  ∃ b1 b2,flatEq ks (ps.take ks.length) (qs.take ks.length) = some b1 ∧ flatEq ls (ps.drop ks.length) (qs.drop ks.length) = some b2 ∧ b = (b1 && b2)
 | [],ls,ps,qs,b,h=>⟨true,b,by simp [flatEq],by simpa using h,by simp⟩
 | k :: ks,ls,[],qs,b,h=>by simp [flatEq] at h
 | k :: ks,ls,p :: ps,[],b,h=>by simp [flatEq] at h
 | k :: ks,ls,p :: ps,q :: qs,b,h=>by
  simp only [List.cons_append,flatEq] at h
  split at h
  ·rename_i hl
   split at h
   ·rename_i a b' h1 h2
    injection h with h
    obtain ⟨b1,b2,e1,e2,e3⟩:=flatEq_append h2
    refine ⟨a && b1,b2,?_,by simpa using e2,by rw [← h,e3,Bool.and_assoc]⟩
    simp only [List.length_cons,List.take_succ_cons,flatEq,if_pos hl,h1,e1]
   ·cases h
  ·cases h
theorem tv_one {t:TypeId} {d:TypeDesc} (hd:P.underlying t = some d) (hn:isAggD d = false) (p:PVal):tv P t [p] = leafVal p:=by simp [tv,hd,hn]
theorem run_part_leaf {t:TypeId} {d:TypeDesc} (hd:P.underlying t = some d) (hn:isAggD d = false) (xs:Array Value) (off:Nat) (v:Value) (hv:xs[off]? = some v):(part t xs off).run P w = .ok v w:=by
 unfold part
 simp [run_isAgg hd,hn,hv]
theorem run_part_agg {t:TypeId} {d:TypeDesc} {i:TypeInfo} (hd:P.underlying t = some d) (hn:isAggD d = true) (hi:P.info? t = some i) (xs:Array Value) (off:Nat):(part t xs off).run P w = .ok (.agg (xs.extract off (off + i.size))) w:=by
 unfold part
 simp [run_isAgg hd,hn,run_sizeOf hi]
mutual
theorem eqFlat_run (P:Program) : ∀ (d n:Nat),d ≤ n → ∀ (t:TypeId) (ks:List LK),flatK P d t = some ks → ∀ (ps qs:List PVal) (b:Bool),flatEq ks ps qs = some b → ∀ w,(Op.equalIn n t (tv P t ps) (tv P t qs)).run P w = .ok b w
 | 0,n,hn,t,ks,h=>by simp [flatK] at h
 | d + 1,0,hn,t,ks,h=>by omega
 | d + 1,n + 1,hn,t,ks,h=>by
  intro ps qs b hb w
  unfold flatK at h
  split at h
  ·rename_i k hd
   injection h with h
   subst h
   obtain ⟨e1,e2⟩:=flatEq_len hb
   match ps,qs,e1,e2 with
   | [p],[q],_,_ =>
    rw [tv_one hd rfl,tv_one hd rfl]
    have hb' : ∃ a1 a2,p = .int k a1 ∧ q = .int k a2 ∧ b = decide (a1 = a2):=by
     cases p <;> cases q <;> simp [flatEq,leafIs,leafEq] at hb
     case int.int k1 a1 _ k2 a2 _ =>
      obtain ⟨⟨h1,h2⟩,hb⟩:=hb
      subst h1
      subst h2
      simp at hb
      exact ⟨a1,a2,rfl,rfl,hb.symm⟩
    obtain ⟨a1,a2,rfl,rfl,rfl⟩:=hb'
    simp only [leafVal]
    rw [run_equalIn_int w n t k k a1 a2 hd]
    rfl
  ·rename_i hd
   injection h with h
   subst h
   obtain ⟨e1,e2⟩:=flatEq_len hb
   match ps,qs,e1,e2 with
   | [p],[q],_,_ =>
    rw [tv_one hd rfl,tv_one hd rfl]
    cases p <;> cases q <;> simp [flatEq,leafIs,leafEq] at hb
    simp only [leafVal]
    rw [run_equalIn_bool w n t _ _ hd,← hb]
  ·rename_i hd
   injection h with h
   subst h
   obtain ⟨e1,e2⟩:=flatEq_len hb
   match ps,qs,e1,e2 with
   | [p],[q],_,_ =>
    rw [tv_one hd rfl,tv_one hd rfl]
    cases p <;> cases q <;> simp [flatEq,leafIs,leafEq] at hb
    simp only [leafVal]
    rw [run_equalIn_string w n t _ _ hd,← hb,beq_toListBytes]
  ·rename_i fs hd
   split at h
   ·cases h
   ·rename_i hst
    have hf:P.fieldsOf t = fs:=by simp [Program.fieldsOf,hd]
    have ht : ∀ l,tv P t l = .agg (l.map leafVal).toArray:=fun l=>by simp [tv,hd,isAggD]
    rw [ht,ht,run_equalIn_struct w n t _ _ (by rw [hf]; exact hd) (by simpa using hst),hf]
    exact eqFields_run P d n (by omega) fs.toList 0 ks h [] [] ps qs rfl rfl b hb w
  ·cases h
theorem eqFields_run (P:Program) : ∀ (d n:Nat),d ≤ n → ∀ (fs:List Field) (off:Nat) (ks:List LK),flatF P d fs off = some ks → ∀ (pre pre' ps qs:List PVal),pre.length = off → pre'.length = off → ∀ (b:Bool),flatEq ks ps qs = some b →
  ∀ w,(Op.eqFields n ((pre ++ ps).map leafVal).toArray ((pre' ++ qs).map leafVal).toArray fs).run P w = .ok b w
 | 0,n,hn,fs,off,ks,h=>by simp [flatF] at h
 | d + 1,n,hn,[],off,ks,h=>by
  intro pre pre' ps qs h1 h2 b hb w
  simp [flatF] at h
  subst h
  obtain ⟨e1,e2⟩:=flatEq_len hb
  obtain rfl:=List.eq_nil_of_length_eq_zero e1
  obtain rfl:=List.eq_nil_of_length_eq_zero e2
  simp [flatEq] at hb
  subst hb
  simp [Op.eqFields]
 | d + 1,n,hn,f :: r,off,ks,h=>by
  intro pre pre' ps qs h1 h2 b hb w
  unfold flatF at h
  split at h
  ·cases h
  ·rename_i hname
   split at h
   ·rename_i ks1 i ls hk hi hl
    split at h
    ·rename_i hlen
     injection h with h
     subst h
     simp only [hi,Option.map_some,Option.getD_some] at hl
     obtain ⟨b1,b2,e1,e2,e3⟩:=flatEq_append hb
     obtain ⟨l1,l2⟩:=flatEq_len e1
     have hnm:f.name ≠ "_":=fun e=>hname (.inl e)
     have hoff:f.offset = off:=Classical.byContradiction fun e=>hname (.inr e)
     have hq:=eqFlat_run P d n (by omega) f.type ks1 hk _ _ b1 e1
     have hp : ∀ (pre0 l:List PVal),pre0.length = off → (l.take ks1.length).length = ks1.length → ∀ w,(part f.type ((pre0 ++ l).map leafVal).toArray f.offset).run P w = .ok (tv P f.type (l.take ks1.length)) w:=by
      intro pre0 l hpre htk w
      have hu : ∃ dd,P.underlying f.type = some dd:=by
       cases d with
       | zero=>simp [flatK] at hk
       | succ d =>
        unfold flatK at hk
        split at hk <;> first | exact ⟨_,by assumption⟩ | cases hk
      obtain ⟨dd,hdd⟩:=hu
      cases hag:isAggD dd with
      | true =>
       rw [run_part_agg hdd hag hi]
       simp only [tv,hdd,Option.map_some,Option.getD_some,hag,if_true]
       congr 2
       rw [hoff,← hpre,← hlen]
       simp [List.drop_append,List.take_append]
      | false =>
       have hone:ks1.length = 1:=by
        cases d with
        | zero=>simp [flatK] at hk
        | succ d =>
         unfold flatK at hk
         rw [hdd] at hk
         cases dd <;> simp [isAggD] at hag <;> simp at hk <;> (try (subst hk; rfl))
       match l,htk with
       | x :: l',_ =>
        rw [hone]
        simp only [List.take_succ_cons,List.take_zero]
        rw [tv_one hdd hag]
        refine run_part_leaf hdd hag _ _ _ ?_
        rw [hoff,← hpre]
        simp
       | [],htk=>simp [hone] at htk
     simp only [Op.eqFields]
     rw [if_pos hnm]
     simp only [Sem.run_bind]
     rw [hp pre ps h1 l1]
     simp only [Result.andThen_ok]
     rw [hp pre' qs h2 l2]
     simp only [Result.andThen_ok]
     rw [hq]
     simp only [Result.andThen_ok,Sem.run_ite]
     cases b1 with
     | false =>
      simp at e3
      subst e3
      simp
     | true =>
      simp only [Bool.not_true,Bool.false_eq_true,if_false]
      simp only [Bool.true_and] at e3
      subst e3
      have:=eqFields_run P d n (by omega) r (off + i.size) ls hl (pre ++ ps.take ks1.length) (pre' ++ qs.take ks1.length) (ps.drop ks1.length) (qs.drop ks1.length) (by simp [h1,← hlen]; have:=l1; simp at this; omega) (by simp [h2,← hlen]; have:=l2; simp at this; omega) b e2 w
      simpa [List.append_assoc] using this
    ·cases h
   ·cases h
end
theorem eqItems_run {e:TypeId} {k:IntKind} (n:Nat) (hk:P.underlying e = some (.int k)) : ∀ (len j:Nat) (pre pre' ps qs:List PVal) (b:Bool),pre.length = j → pre'.length = j → flatEq (List.replicate len (.int k)) ps qs = some b →
  ∀ w,(Op.eqItems (n + 1) e 1 ((pre ++ ps).map leafVal).toArray ((pre' ++ qs).map leafVal).toArray (List.range' j len)).run P w = .ok b w
 | 0,j,pre,pre',ps,qs,b,h1,h2,hb,w=>by
  obtain ⟨e1,e2⟩:=flatEq_len hb
  obtain rfl:=List.eq_nil_of_length_eq_zero (by simpa using e1)
  obtain rfl:=List.eq_nil_of_length_eq_zero (by simpa using e2)
  simp [flatEq] at hb
  subst hb
  simp [Op.eqItems]
 | len + 1,j,pre,pre',ps,qs,b,h1,h2,hb,w=>by
  have hb0:=hb
  rw [List.replicate_succ] at hb
  match ps,qs with
  | [],qs=>simp [flatEq] at hb
  | p :: ps,[]=>simp [flatEq] at hb
  | p :: ps,q :: qs =>
   simp only [flatEq] at hb
   split at hb
   ·rename_i hl
    cases p <;> simp [leafIs] at hl
    cases q <;> simp [leafIs] at hl
    rename_i k1 x k2 y
    obtain ⟨rfl,rfl⟩:=hl
    simp only [leafEq,if_true] at hb
    cases hr:flatEq (List.replicate len (.int k)) ps qs with
    | none=>simp [hr] at hb
    | some b2 =>
     simp only [hr,Option.some.injEq] at hb
     have ih:=eqItems_run n hk len (j + 1) (pre ++ [.int k x]) (pre' ++ [.int k y]) ps qs b2 (by simp [h1]) (by simp [h2]) hr w
     simp only [List.append_assoc,List.singleton_append] at ih
     have hx:(part e ((pre ++ .int k x :: ps).map leafVal).toArray (j * 1)).run P w = .ok (.int k x) w :=
      run_part_leaf hk rfl _ _ _ (by rw [Nat.mul_one,← h1]; simp [leafVal])
     have hy:(part e ((pre' ++ .int k y :: qs).map leafVal).toArray (j * 1)).run P w = .ok (.int k y) w :=
      run_part_leaf hk rfl _ _ _ (by rw [Nat.mul_one,← h2]; simp [leafVal])
     rw [List.range'_succ]
     simp only [Op.eqItems,Sem.run_bind,hx,hy,Result.andThen_ok,run_equalIn_int w n e k k x y hk]
     have hxy:(x == y) = decide (x = y):=rfl
     rw [hxy]
     cases hd:decide (x = y) with
     | false=>rw [hd] at hb; simp at hb; subst hb; simp
     | true=>rw [hd] at hb; simp at hb; subst hb; simpa using ih
   ·cases hb
theorem eqArr_run {t e:TypeId} {len n:Nat} {k:IntKind} {ie:TypeInfo} (hd:P.underlying t = some (.array len e)) (hk:P.underlying e = some (.int k)) (hie:P.info? e = some ie) (hsz:ie.size = 1) {ps qs:List PVal} {b:Bool} (hb:flatEq (List.replicate len (.int k)) ps qs = some b) (w:World) :
  (Op.equalIn (n + 2) t (.agg (ps.map leafVal).toArray) (.agg (qs.map leafVal).toArray)).run P w = .ok b w:=by
 have hc:P.cellsOf e = 1:=by simp [Program.cellsOf,hie,hsz]
 rw [run_equalIn_array w (n + 1) _ _ hd hie,hc,List.range_eq_range']
 exact eqItems_run n hk len 0 [] [] ps qs b rfl rfl hb w
end
end Go.Proofs.YtakallenldpkiaaGreatDoor.Abs
