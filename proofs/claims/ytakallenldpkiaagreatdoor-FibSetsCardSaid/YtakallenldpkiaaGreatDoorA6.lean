/- Each operation of the abstract machine is what the model's operation does: arithmetic, addresses, values that are built. Generic over any program. -/
import Derived.Test.YtakallenldpkiaaGreatDoorA5
import Derived.WalkSpells
set_option linter.unusedVariables false
set_option linter.unusedSimpArgs false
set_option linter.unusedSectionVars false
namespace Go.Proofs.YtakallenldpkiaaGreatDoor.Abs
open Go
variable [DqC]
section
variable {P:Program} {o:Oper} {ρ:Operand → Value} {D:AId → Prop} {m:AId → Option Blk} {ok:Nat → Prop} {heap:AId → Option AObj} {w:World} {nx:AId} {r:R}
theorem exec_bin {op:BinOp} {t yt:TypeId} {x y:Operand} (h:o.op = .binOp op t x y yt):(execOp ρ o).run P w = ((eqGuard op t x y (ρ x) (ρ y)).run P w).andThen fun _ w1=>((binOp op t (ρ x) (ρ y)).run P w1).andThen fun v w2=>.ok (.value v) w2:=by
 unfold execOp
 simp only [h,Sem.run_bind,Sem.run_pure]
 cases (eqGuard op t x y (ρ x) (ρ y)).run P w <;> rfl
theorem run_binInt {op:BinOp} {t:TypeId} {k:IntKind} {a b:Int} {p:PVal} (h:binInt op k a b = some p) : ∃ v,(binOp op t (.int k a) (.int k b)).run P w = .ok v w ∧ ∀ ok D m c,Rep w ok D m c p v:=by
 cases op <;> simp only [binInt] at h
 case add=>injection h with h; subst h; exact ⟨_,by simp [binOp,Op.intArith],fun _ _ _ _=>.int⟩
 case sub=>injection h with h; subst h; exact ⟨_,by simp [binOp,Op.intArith],fun _ _ _ _=>.int⟩
 case mul=>injection h with h; subst h; exact ⟨_,by simp [binOp,Op.intArith],fun _ _ _ _=>.int⟩
 case quo =>
  split at h
  ·cases h
  ·rename_i hb
   injection h with h; subst h
   exact ⟨_,by simp [binOp,Op.intDiv,hb],fun _ _ _ _=>.int⟩
 case rem =>
  split at h
  ·cases h
  ·rename_i hb
   injection h with h; subst h
   exact ⟨_,by simp [binOp,Op.intDiv,hb],fun _ _ _ _=>.int⟩
 case and=>injection h with h; subst h; exact ⟨_,by simp [binOp,Op.intBits],fun _ _ _ _=>.int⟩
 case or=>injection h with h; subst h; exact ⟨_,by simp [binOp,Op.intBits],fun _ _ _ _=>.int⟩
 case xor=>injection h with h; subst h; exact ⟨_,by simp [binOp,Op.intBits],fun _ _ _ _=>.int⟩
 case andNot=>injection h with h; subst h; exact ⟨_,by simp [binOp,Op.intBits],fun _ _ _ _=>.int⟩
 case eql=>injection h with h; subst h; exact ⟨_,by simp [binOp,Op.intCmp]; rfl,fun _ _ _ _=>.bool⟩
 case neq=>injection h with h; subst h; exact ⟨_,by simp [binOp,Op.intCmp]; rfl,fun _ _ _ _=>.bool⟩
 case lss=>injection h with h; subst h; exact ⟨_,by simp [binOp,Op.intCmp],fun _ _ _ _=>.bool⟩
 case leq=>injection h with h; subst h; exact ⟨_,by simp [binOp,Op.intCmp],fun _ _ _ _=>.bool⟩
 case gtr=>injection h with h; subst h; exact ⟨_,by simp [binOp,Op.intCmp],fun _ _ _ _=>.bool⟩
 case geq=>injection h with h; subst h; exact ⟨_,by simp [binOp,Op.intCmp],fun _ _ _ _=>.bool⟩
 all_goals cases h
theorem guard_int {op:BinOp} {t:TypeId} {x y:Operand} {k:IntKind} {n:Int} {v:Value}:(eqGuard op t x y (.int k n) v).run P w = .ok () w:=by
 rw [eqGuard_at_int]; rfl
theorem rep_int {c:Bool} {k:IntKind} {n:Int} {v:Value} (h:Rep w ok D m c (.int k n) v):v = .int k n:=by cases h; rfl
theorem rep_bool {c:Bool} {b:Bool} {v:Value} (h:Rep w ok D m c (.bool b) v):v = .bool b:=by cases h; rfl
theorem rep_str {c:Bool} {s:ByteArray} {v:Value} (h:Rep w ok D m c (.str s) v):v = .string s:=by cases h; rfl
theorem rep_nilp {c:Bool} {v:Value} (h:Rep w ok D m c .nilp v):v = .pointer none:=by cases h; rfl
theorem rep_nils {c:Bool} {v:Value} (h:Rep w ok D m c .nils v):v = .slice none 0 0:=by cases h; rfl
theorem rep_rptr {c:Bool} {cs:List PVal} {v:Value} (h:Rep w ok D m c (.rptr cs) v) : ∃ ad,v = .pointer (some ad):=by cases h; exact ⟨_,rfl⟩
theorem rep_agg {c:Bool} {cs:List PVal} {v:Value} (h:Rep w ok D m c (.agg cs) v) : ∃ vs:List Value,v = .agg vs.toArray ∧ Reps w ok D m c cs vs ∧ ∀ u ∈ vs,u.oneCell' = true:=by
 cases h with
 | agg hl h1 h=>exact ⟨_,rfl,⟨hl,h⟩,h1⟩
theorem rep_ro_pos {c:Bool} {sz:Nat} {es:List (List PVal)} {v:Value} (h:Rep w ok D m c (.ro sz es) v) (hp:0 < es.length) : ∃ ad n cap,v = .slice (some ad) n cap:=by
 cases h with
 | ro vs hn hc hm hs hA hcell h=>exact ⟨_,_,_,by rw [hA (by omega)]⟩
theorem leaves_of {c:Bool} : ∀ {ks:List LK} {ps qs:List PVal} {b:Bool} {vs us:List Value},flatEq ks ps qs = some b → Reps w ok D m c ps vs → Reps w ok D m c qs us → vs = ps.map leafVal ∧ us = qs.map leafVal
 | [],[],[],_,vs,us,_,h,h'=>by rw [h.unnil,h'.unnil]; exact ⟨rfl,rfl⟩
 | [],_ :: _,_,_,_,_,hf,_,_=>by simp [flatEq] at hf
 | [],[],_ :: _,_,_,_,hf,_,_=>by simp [flatEq] at hf
 | _ :: _,[],_,_,_,_,hf,_,_=>by simp [flatEq] at hf
 | _ :: _,_ :: _,[],_,_,_,hf,_,_=>by simp [flatEq] at hf
 | k :: ks,p :: ps,q :: qs,b,vs,us,hf,h,h'=>by
  simp only [flatEq] at hf
  split at hf
  ·rename_i hl
   split at hf
   ·rename_i a b' h1 h2
    obtain ⟨v,vs',rfl,hp,hs⟩:=h.uncons
    obtain ⟨u,us',rfl,hq,hu⟩:=h'.uncons
    obtain ⟨e1,e2⟩:=leaves_of h2 hs hu
    exact ⟨by rw [leaf_of hp hl.1,e1]; rfl,by rw [leaf_of hq hl.2,e2]; rfl⟩
   ·cases hf
  ·cases hf
theorem ek_bool {t:TypeId} (h:ekOf P t = some .bool):P.underlying t = some .bool:=by
 unfold ekOf at h
 split at h
 ·assumption
 ·cases h
 ·cases h
 ·split at h
  ·cases h
  ·cases hf:flatK P 60 t <;> simp [hf] at h
 ·(repeat' split at h) <;> cases h
 ·cases h
 ·cases h
 ·cases h
theorem ek_ptr {t:TypeId} (h:ekOf P t = some .ptr):P.underlying t = some (.pointer (P.pointee t)):=by
 unfold ekOf at h
 split at h
 ·cases h
 ·cases h
 ·cases h
 ·split at h
  ·cases h
  ·cases hf:flatK P 60 t <;> simp [hf] at h
 ·(repeat' split at h) <;> cases h
 ·rename_i hd
  rw [hd]; simp [Program.pointee,hd]
 ·cases h
 ·cases h
theorem ek_sl {t:TypeId} (h:ekOf P t = some .sl) : ∃ e,P.underlying t = some (.slice e):=by
 unfold ekOf at h
 split at h
 ·cases h
 ·cases h
 ·cases h
 ·split at h
  ·cases h
  ·cases hf:flatK P 60 t <;> simp [hf] at h
 ·(repeat' split at h) <;> cases h
 ·cases h
 ·rename_i hd
  exact ⟨_,hd⟩
 ·cases h
theorem ek_flat {t:TypeId} {ks:List LK} (h:ekOf P t = some (.flat ks)):((∃ fs,P.underlying t = some (.struct fs)) ∧ P.eqGuardType P.depth t = false ∧ flatK P 60 t = some ks) ∨
  (∃ len e k ie,P.underlying t = some (.array len e) ∧ P.underlying e = some (.int k) ∧ P.info? e = some ie ∧ P.eqGuardType P.depth t = false ∧ ie.size = 1 ∧ ks = List.replicate len (.int k)):=by
 unfold ekOf at h
 split at h
 ·cases h
 ·cases h
 ·cases h
 ·rename_i fs hd
  split at h
  ·cases h
  ·rename_i hg
   cases hf:flatK P 60 t with
   | none=>simp [hf] at h
   | some ks'=>simp [hf] at h; subst h; exact .inl ⟨⟨fs,hd⟩,by simpa using hg,rfl⟩
 ·rename_i len e hd
  split at h
  ·rename_i k ie hk hie
   split at h
   ·rename_i hg
    injection h with h
    injection h with h
    exact .inr ⟨len,e,k,ie,hd,hk,hie,hg.1,hg.2,h.symm⟩
   ·cases h
  ·cases h
 ·cases h
 ·cases h
 ·cases h
theorem run_flat {t:TypeId} {ks:List LK} (h:ekOf P t = some (.flat ks)) {ps qs:List PVal} {b:Bool} (hb:flatEq ks ps qs = some b) (x y:Operand) (op:BinOp) (w:World) :
  (eqGuard op t x y (.agg (ps.map leafVal).toArray) (.agg (qs.map leafVal).toArray)).run P w = .ok () w ∧
  (binOp .eql t (.agg (ps.map leafVal).toArray) (.agg (qs.map leafVal).toArray)).run P w = .ok (.bool b) w ∧ (binOp .neq t (.agg (ps.map leafVal).toArray) (.agg (qs.map leafVal).toArray)).run P w = .ok (.bool (!b)) w:=by
 rcases ek_flat h with ⟨⟨fs,hd⟩,hg,hk⟩ | ⟨len,e,k,ie,hd,hk,hie,hg,hsz,rfl⟩
 ·have ht : ∀ l,tv P t l = .agg (l.map leafVal).toArray:=fun l=>by simp [tv,hd,isAggD]
  have hr:=eqFlat_run P 60 10000 (by omega) t ks hk ps qs b hb w
  rw [ht,ht] at hr
  refine ⟨run_eqGuard_agg w op t x y _ _ hg,?_,?_⟩
  ·rw [run_eql_struct,hr]; rfl
  ·rw [run_neq_struct,hr]; rfl
 ·have hr:=eqArr_run (P:=P) (n:=9998) hd hk hie hsz hb w
  refine ⟨run_eqGuard_agg w op t x y _ _ hg,?_,?_⟩
  ·rw [run_eql_struct,hr]; rfl
  ·rw [run_neq_struct,hr]; rfl
theorem str_room {n:Nat} (h:n ≤ 9223372036854775807) : ¬ IntKind.i64.max < (n:Int):=by
 have e:IntKind.i64.max = 9223372036854775807:=by decide
 rw [e]; omega
theorem core_bin {op:BinOp} {t yt:TypeId} {x y:Operand} {ek:EK} {p q:PVal} (h:o.op = .binOp op t x y yt) (hek:ekOf P t = some ek) (hH:SimH D m ok heap w) (hx:Rep w (okn ok m) D m false p (ρ x)) (hy:Rep w (okn ok m) D m false q (ρ y))
  (hc:core (.bin op ek) [p,q] heap nx = some r):Out P o ρ D m ok heap w r:=by
 have hptr : ∀ (a:Option Addr),ρ x = .pointer a → ρ y = .pointer none → ek = .ptr →
   (op = .eql → (execOp ρ o).run P w = .ok (.value (.bool a.isNone)) w) ∧ (op = .neq → (execOp ρ o).run P w = .ok (.value (.bool (!a.isNone))) w):=by
  intro a hx hy he
  subst he
  refine ⟨fun e=>?_,fun e=>?_⟩ <;> subst e <;> rw [exec_bin h,hx,hy,eqGuard_at_pointer]
  ·simp [run_eql_pointer_nil w t a (ek_ptr hek)]
  ·simp [run_neq_pointer_nil w t a (ek_ptr hek)]
 have key : ∀ v,binV op ek p q = some v → Out P o ρ D m ok heap w { v }:=by
  intro v hv
  unfold binV at hv
  split at hv
  ·split at hv
   ·cases hv
   ·rename_i hb
    injection hv with hv; subst hv
    refine Out.pure hH [] ?_ .int
    rw [exec_bin h,rep_int hx,rep_int hy,guard_int]
    simp [binOp,Op.shift,hb]
  ·split at hv
   ·cases hv
   ·rename_i hb
    injection hv with hv; subst hv
    refine Out.pure hH [] ?_ .int
    rw [exec_bin h,rep_int hx,rep_int hy,guard_int]
    simp [binOp,Op.shift,hb]
  ·split at hv
   ·rename_i hk
    subst hk
    obtain ⟨u,h1,h2⟩:=run_binInt (P:=P) (w:=w) (t:=t) hv
    refine Out.pure hH [] (v:=u) ?_ (h2 _ _ _ _)
    rw [exec_bin h,rep_int hx,rep_int hy,guard_int]
    simp [h1]
   ·cases hv
  ·split at hv
   ·injection hv with hv; subst hv
    refine Out.pure hH [] ?_ .bool
    rw [exec_bin h,rep_bool hx,rep_bool hy,eqGuard_at_bool]
    simp [run_eql_bool w t _ _ (ek_bool hek)]
   ·cases hv
  ·split at hv
   ·injection hv with hv; subst hv
    refine Out.pure hH [] ?_ .bool
    rw [exec_bin h,rep_bool hx,rep_bool hy,eqGuard_at_bool]
    simp [run_neq_bool w t _ _ (ek_bool hek)]
   ·cases hv
  ·injection hv with hv; subst hv
   refine Out.pure hH [] ?_ .bool
   rw [exec_bin h,rep_str hx,rep_str hy,eqGuard_at_string]
   simp [binOp,Op.stringOp]
  ·injection hv with hv; subst hv
   refine Out.pure hH [] ?_ .bool
   rw [exec_bin h,rep_str hx,rep_str hy,eqGuard_at_string]
   simp [binOp,Op.stringOp]
  ·injection hv with hv; subst hv
   refine Out.pure hH [] ?_ .bool
   rw [exec_bin h,rep_str hx,rep_str hy,eqGuard_at_string]
   simp [binOp,Op.stringOp]
  ·injection hv with hv; subst hv
   refine Out.pure hH [] ?_ .bool
   rw [exec_bin h,rep_str hx,rep_str hy,eqGuard_at_string]
   simp [binOp,Op.stringOp]
  ·injection hv with hv; subst hv
   refine Out.pure hH [] ?_ .bool
   rw [exec_bin h,rep_str hx,rep_str hy,eqGuard_at_string]
   simp [binOp,Op.stringOp]
  ·injection hv with hv; subst hv
   refine Out.pure hH [] ?_ .bool
   rw [exec_bin h,rep_str hx,rep_str hy,eqGuard_at_string]
   simp [binOp,Op.stringOp]
  ·split at hv
   ·rename_i hle
    injection hv with hv; subst hv
    refine Out.pure hH [] ?_ .str
    rw [exec_bin h,rep_str hx,rep_str hy,eqGuard_at_string]
    have hn : ¬ IntKind.i64.max < (((_:ByteArray).size + (_:ByteArray).size:Nat):Int):=str_room hle
    simp only [binOp,Op.stringOp,gt_iff_lt,hn,if_false]
    simp
   ·cases hv
  ·split at hv
   ·injection hv with hv; subst hv
    exact Out.pure hH [] ((hptr none (rep_nilp hx) (rep_nilp hy) rfl).1 rfl) .bool
   ·cases hv
  ·split at hv
   ·injection hv with hv; subst hv
    exact Out.pure hH [] ((hptr none (rep_nilp hx) (rep_nilp hy) rfl).2 rfl) .bool
   ·cases hv
  ·split at hv
   ·injection hv with hv; subst hv
    obtain ⟨ad,e⟩:=rep_rptr hx
    exact Out.pure hH [] ((hptr (some ad) e (rep_nilp hy) rfl).1 rfl) .bool
   ·cases hv
  ·split at hv
   ·injection hv with hv; subst hv
    obtain ⟨ad,e⟩:=rep_rptr hx
    exact Out.pure hH [] ((hptr (some ad) e (rep_nilp hy) rfl).2 rfl) .bool
   ·cases hv
  ·split at hv
   ·injection hv with hv; subst hv
    obtain ⟨e,hd⟩:=ek_sl hek
    refine Out.pure hH [] (v:=.bool true) ?_ .bool
    rw [exec_bin h,rep_nils hx,rep_nils hy,eqGuard_at_slice]
    simp [Lib.run_eql_slice_nil w t e none 0 0 0 0 hd]
   ·cases hv
  ·split at hv
   ·injection hv with hv; subst hv
    obtain ⟨e,hd⟩:=ek_sl hek
    refine Out.pure hH [] (v:=.bool false) ?_ .bool
    rw [exec_bin h,rep_nils hx,rep_nils hy,eqGuard_at_slice]
    simp [run_neq_slice_nil_any w t e none 0 0 0 0 hd]
   ·cases hv
  ·split at hv
   ·injection hv with hv; subst hv
    obtain ⟨e,hd⟩:=ek_sl hek
    split
    ·rename_i hpos
     obtain ⟨ad,n,cap,e1⟩:=rep_ro_pos hx hpos
     refine Out.pure hH [] (v:=.bool false) ?_ .bool
     rw [exec_bin h,e1,rep_nils hy,eqGuard_at_slice]
     simp [Lib.run_eql_slice_nil w t e (some ad) n cap 0 0 hd]
    ·obtain ⟨A,n,cap,e1⟩ : ∃ A n cap,ρ x = .slice A n cap:=by
      generalize ρ x = X at hx
      cases hx
      exact ⟨_,_,_,rfl⟩
     refine Out.pure hH [] (v:=.bool A.isNone) ?_ .anyb
     rw [exec_bin h,e1,rep_nils hy,eqGuard_at_slice]
     cases A <;> simp [Lib.run_eql_slice_nil w t e _ n cap 0 0 hd]
   ·cases hv
  ·split at hv
   ·injection hv with hv; subst hv
    obtain ⟨e,hd⟩:=ek_sl hek
    split
    ·rename_i hpos
     obtain ⟨ad,n,cap,e1⟩:=rep_ro_pos hx hpos
     refine Out.pure hH [] (v:=.bool true) ?_ .bool
     rw [exec_bin h,e1,rep_nils hy,eqGuard_at_slice]
     simp [run_neq_slice_nil_any w t e (some ad) n cap 0 0 hd]
    ·obtain ⟨A,n,cap,e1⟩ : ∃ A n cap,ρ x = .slice A n cap:=by
      generalize ρ x = X at hx
      cases hx
      exact ⟨_,_,_,rfl⟩
     refine Out.pure hH [] (v:=.bool (!A.isNone)) ?_ .anyb
     rw [exec_bin h,e1,rep_nils hy,eqGuard_at_slice]
     cases A <;> simp [run_neq_slice_nil_any w t e _ n cap 0 0 hd]
   ·cases hv
  ·split at hv
   ·rename_i ks
    obtain ⟨b,hb,rfl⟩:=Option.map_eq_some_iff.1 hv
    obtain ⟨vs,e1,g1,_⟩:=rep_agg hx
    obtain ⟨us,e2,g2,_⟩:=rep_agg hy
    obtain ⟨rfl,rfl⟩:=leaves_of hb g1 g2
    obtain ⟨k1,k2,k3⟩:=run_flat hek hb x y .eql w
    refine Out.pure hH [] (v:=.bool b) ?_ .bool
    rw [exec_bin h,e1,e2,k1]
    simp only [Result.andThen_ok,k2]
   ·cases hv
  ·split at hv
   ·rename_i ks
    obtain ⟨b,hb,rfl⟩:=Option.map_eq_some_iff.1 hv
    obtain ⟨vs,e1,g1,_⟩:=rep_agg hx
    obtain ⟨us,e2,g2,_⟩:=rep_agg hy
    obtain ⟨rfl,rfl⟩:=leaves_of hb g1 g2
    obtain ⟨k1,k2,k3⟩:=run_flat hek hb x y .neq w
    refine Out.pure hH [] (v:=.bool (!b)) ?_ .bool
    rw [exec_bin h,e1,e2,k1]
    simp only [Result.andThen_ok,k3]
   ·cases hv
  ·cases hv
 have hown : ∀ id off cs,p = .ptr id off → heap id = some (.box cs) → ∃ ad,ρ x = .pointer (some ad):=by
  intro id off cs hp hob
  subst hp
  obtain ⟨B,hB,ho⟩:=hH.obj id _ hob
  cases B with
  | nil=>exact ho.elim
  | «at» b t =>
   cases hx with
   | ptr _ _ hp=>exact ⟨_,hp b t hB⟩
 have hownr : ∀ id sz lo n sz' ty es,p = .own id sz lo n → heap id = some (.row sz' ty es) → 0 < n → ∃ ad n' cap,ρ x = .slice (some ad) n' cap:=by
  intro id sz lo n sz' ty es hp hob hn
  subst hp
  obtain ⟨B,hB,ho⟩:=hH.obj id _ hob
  cases hx with
  | own _ _ hp =>
   have:=hp B hB
   cases B with
   | nil=>obtain ⟨_,_,e⟩:=this; omega
   | «at» b t =>
    obtain ⟨a,cap,e,_⟩:=this
    exact ⟨_,_,_,e⟩
 simp only [core,coreBin] at hc
 split at hc
 ·rename_i id off
  cases ho:heap id with
  | none=>simp [ho] at hc
  | some ob =>
   cases ob <;> simp [ho] at hc
   subst hc
   obtain ⟨ad,e⟩:=hown id off _ rfl ho
   exact Out.pure hH _ ((hptr _ e (rep_nilp hy) rfl).1 rfl) .bool
 ·rename_i id off
  cases ho:heap id with
  | none=>simp [ho] at hc
  | some ob =>
   cases ob <;> simp [ho] at hc
   subst hc
   obtain ⟨ad,e⟩:=hown id off _ rfl ho
   exact Out.pure hH _ ((hptr _ e (rep_nilp hy) rfl).2 rfl) .bool
 ·rename_i id sz lo n
  cases ho:heap id with
  | none=>simp [ho] at hc
  | some ob =>
   cases ob <;> simp [ho] at hc
   obtain ⟨hn,hc⟩:=hc
   subst hc
   obtain ⟨ad,n',cap,e1⟩:=hownr id _ _ _ _ _ _ rfl ho hn
   obtain ⟨e,hd⟩:=ek_sl hek
   refine Out.pure hH _ (v:=.bool false) ?_ .bool
   rw [exec_bin h,e1,rep_nils hy,eqGuard_at_slice]
   simp [Lib.run_eql_slice_nil w t e (some ad) n' cap 0 0 hd]
 ·rename_i id sz lo n
  cases ho:heap id with
  | none=>simp [ho] at hc
  | some ob =>
   cases ob <;> simp [ho] at hc
   obtain ⟨hn,hc⟩:=hc
   subst hc
   obtain ⟨ad,n',cap,e1⟩:=hownr id _ _ _ _ _ _ rfl ho hn
   obtain ⟨e,hd⟩:=ek_sl hek
   refine Out.pure hH _ (v:=.bool true) ?_ .bool
   rw [exec_bin h,e1,rep_nils hy,eqGuard_at_slice]
   simp [run_neq_slice_nil_any w t e (some ad) n' cap 0 0 hd]
 ·obtain ⟨v,hv,rfl⟩:=Option.map_eq_some_iff.1 hc
  exact key v hv
theorem core_mov {x:Operand} {p:PVal} (h:o.op = .move x ∨ o.op = .assign x) (hH:SimH D m ok heap w) (hx:Rep w (okn ok m) D m false p (ρ x)) (hc:core .mov [p] heap nx = some r):Out P o ρ D m ok heap w r:=by
 simp only [core,Option.some.injEq] at hc
 subst hc
 exact Out.pure hH _ (exec_mov h) hx
theorem core_pick {c a b:Operand} {p q s:PVal} (h:o.op = .pick c a b) (hH:SimH D m ok heap w) (hp:Rep w (okn ok m) D m false p (ρ c)) (hq:Rep w (okn ok m) D m false q (ρ a)) (hs:Rep w (okn ok m) D m false s (ρ b))
  (hc:core .pick [p,q,s] heap nx = some r):Out P o ρ D m ok heap w r:=by
 cases p <;> simp only [core,Option.some.injEq] at hc
 case bool t =>
  subst hc
  refine Out.pure hH _ (exec_pick h (rep_bool hp)) ?_
  cases t
  ·exact hs
  ·exact hq
 all_goals cases hc
theorem core_unNot {t:TypeId} {x:Operand} {p:PVal} (h:o.op = .unOp .not t x) (hH:SimH D m ok heap w) (hx:Rep w (okn ok m) D m false p (ρ x)) (hc:core .unNot [p] heap nx = some r):Out P o ρ D m ok heap w r:=by
 cases p <;> simp only [core,Option.some.injEq] at hc
 case bool b =>
  subst hc
  refine Out.pure hH _ (v:=.bool (!b)) ?_ .bool
  unfold execOp
  simp only [h,rep_bool hx]
  simp [Op.unary]
 case anyb =>
  subst hc
  obtain ⟨b,hb⟩ : ∃ b,ρ x = .bool b:=by
   generalize ρ x = X at hx
   cases hx
   exact ⟨_,rfl⟩
  refine Out.pure hH _ (v:=.bool (!b)) ?_ .anyb
  unfold execOp
  simp only [h,hb]
  simp [Op.unary]
 all_goals cases hc
theorem core_unNeg {t:TypeId} {x:Operand} {p:PVal} (h:o.op = .unOp .neg t x) (hH:SimH D m ok heap w) (hx:Rep w (okn ok m) D m false p (ρ x)) (hc:core .unNeg [p] heap nx = some r):Out P o ρ D m ok heap w r:=by
 cases p <;> simp only [core,Option.some.injEq] at hc
 case int k n =>
  subst hc
  refine Out.pure hH _ (v:=.int k (k.wrap (-n))) ?_ .int
  unfold execOp
  simp only [h,rep_int hx]
  simp [Op.unary,Op.intArith]
 all_goals cases hc
theorem core_unInv {t:TypeId} {x:Operand} {p:PVal} (h:o.op = .unOp .xor t x) (hH:SimH D m ok heap w) (hx:Rep w (okn ok m) D m false p (ρ x)) (hc:core .unInv [p] heap nx = some r):Out P o ρ D m ok heap w r:=by
 cases p <;> simp only [core,binInt,Option.map_some,Option.some.injEq] at hc
 case int k n =>
  subst hc
  refine Out.pure hH _ (v:=.int k (k.wrap (BitVec.ofInt k.bits (if k.signed then -1 else k.max) ^^^ BitVec.ofInt k.bits n).toNat)) ?_ .int
  unfold execOp
  simp only [h,rep_int hx]
  simp [Op.unary,Op.intBits]
 all_goals cases hc
theorem core_conv {src dst:TypeId} {x:Operand} {p:PVal} {k k':IntKind} (h:o.op = .convert src dst x) (hs:P.underlying src = some (.int k')) (hd:P.underlying dst = some (.int k)) (hH:SimH D m ok heap w)
  (hx:Rep w (okn ok m) D m false p (ρ x)) (hc:core (.conv k) [p] heap nx = some r):Out P o ρ D m ok heap w r:=by
 cases p <;> simp only [core,Option.some.injEq] at hc
 case int k0 n =>
  subst hc
  refine Out.pure hH _ (v:=.int k (k.wrap n)) ?_ .int
  unfold execOp
  simp only [h,rep_int hx]
  simp [convert,run_underlying hs,run_underlying hd,Conv.intToInt]
 all_goals cases hc
theorem core_ext {x:Operand} {j:Nat} {p:PVal} (h:o.op = .extract x j) (hH:SimH D m ok heap w) (hx:Rep w (okn ok m) D m false p (ρ x)) (hc:core (.ext j) [p] heap nx = some r):Out P o ρ D m ok heap w r:=by
 cases p <;> simp only [core] at hc
 case tup cs =>
  obtain ⟨v,hv,rfl⟩:=Option.map_eq_some_iff.1 hc
  generalize hX:ρ x = X at hx
  cases hx with
  | @tup _ _ vs hl hh =>
   have hj:j < vs.length:=by rw [← hl]; exact (List.getElem?_eq_some_iff.1 hv).1
   refine Out.pure hH _ (v:=vs[j]) ?_ (hh j v _ hv (List.getElem?_eq_getElem hj))
   unfold execOp
   simp only [h,hX]
   simp [Instr.extract,hj]
 all_goals cases hc
theorem core_mkfn {f:FuncId} {first captured:Array Operand} {ps:List PVal} (h:o.op = .makeFunc (.func f) first captured) (hH:SimH D m ok heap w) (hx:Reps w (okn ok m) D m false ps ((first.toList ++ captured.toList).map ρ))
  (hc:core (.mkfn f first.size) ps heap nx = some r):Out P o ρ D m ok heap w r:=by
 simp only [core,Option.some.injEq] at hc
 subst hc
 refine Out.pure hH _ (v:=.func (.func f) (first.map ρ) (captured.map ρ)) ?_ ?_
 ·unfold execOp
  simp only [h]
  simp [Instr.makeFunc]
 ·have h1:=hx.take first.size
  have h2:=hx.drop first.size
  have e1:List.take first.size (List.map ρ (first.toList ++ captured.toList)) = (first.map ρ).toList:=by simp
  have e2:List.drop first.size (List.map ρ (first.toList ++ captured.toList)) = (captured.map ρ).toList:=by simp
  rw [e1] at h1
  rw [e2] at h2
  have:=Rep.fn (f:=f) h1.1 h2.1 h1.2 h2.2
  rw [Array.toArray_toList,Array.toArray_toList] at this
  exact this
theorem core_mkif {t:TypeId} {x:Operand} {p:PVal} {d:TypeDesc} (h:o.op = .makeInterface t x) (hd:P.underlying t = some d) (hn : ∀ ms,d ≠ .interface ms) (hH:SimH D m ok heap w) (hx:Rep w (okn ok m) D m false p (ρ x))
  (hc:core (.mkif t) [p] heap nx = some r):Out P o ρ D m ok heap w r:=by
 simp only [core,Option.some.injEq] at hc
 subst hc
 refine Out.pure hH _ (v:=.iface t (ρ x)) ?_ (.iface hx)
 unfold execOp
 simp only [h,Sem.run_bind]
 have hcn:P.concrete t = true:=by
  unfold Program.concrete
  rw [hd]
  cases d <;> first | rfl | exact absurd rfl (hn _)
 rw [run_makeInterface w t (ρ x) hcn]
 rfl
theorem core_minmax {b:Builtin} {args:Array Operand} {ats:Array TypeId} {x y:Operand} {p q:PVal} {isMax:Bool} (h:o.op = .call { callee:=.builtin b,args,argTypes:=ats }) (hb:b = if isMax then .max else .min) (ha:args.toList = [x,y]) (hH:SimH D m ok heap w)
  (hx:Rep w (okn ok m) D m false p (ρ x)) (hy:Rep w (okn ok m) D m false q (ρ y)) (hc:core (.minmax isMax) [p,q] heap nx = some r):Out P o ρ D m ok heap w r:=by
 have ha':args = #[x,y]:=by rw [← Array.toArray_toList (xs:=args),ha]
 cases p <;> cases q <;> simp only [core] at hc
 case int.int k a k' b' =>
  split at hc
  ·rename_i hk
   subst hk
   injection hc with hc
   subst hc
   cases isMax
   ·simp only [Bool.false_eq_true,if_false] at hb ⊢
    subst hb
    refine Out.pure hH _ (v:=.int k (if b' < a then b' else a)) ?_ .int
    unfold execOp
    simp only [h,ha']
    simp [resolve,invoke,builtin,rep_int hx,rep_int hy,run_min_int2]
   ·simp only [if_true] at hb ⊢
    subst hb
    refine Out.pure hH _ (v:=.int k (if a < b' then b' else a)) ?_ .int
    unfold execOp
    simp only [h,ha']
    simp [resolve,invoke,builtin,rep_int hx,rep_int hy,run_max_int2]
  ·cases hc
 all_goals cases hc
theorem core_minmax3 {b:Builtin} {args:Array Operand} {ats:Array TypeId} {x y z:Operand} {p q s:PVal} {isMax:Bool} (h:o.op = .call { callee:=.builtin b,args,argTypes:=ats }) (hb:b = if isMax then .max else .min) (ha:args.toList = [x,y,z]) (hH:SimH D m ok heap w)
  (hx:Rep w (okn ok m) D m false p (ρ x)) (hy:Rep w (okn ok m) D m false q (ρ y)) (hz:Rep w (okn ok m) D m false s (ρ z)) (hc:core (.minmax isMax) [p,q,s] heap nx = some r):Out P o ρ D m ok heap w r:=by
 have ha':args = #[x,y,z]:=by rw [← Array.toArray_toList (xs:=args),ha]
 cases p <;> (try simp only [core] at hc) <;> try (cases hc; done)
 all_goals (cases q <;> (try simp only [core] at hc) <;> try (cases hc; done))
 all_goals (cases s <;> (try simp only [core] at hc) <;> try (cases hc; done))
 rename_i k a k' b' k'' c'
 split at hc
 ·rename_i hk
  obtain ⟨rfl,rfl⟩:=hk
  injection hc with hc
  subst hc
  cases isMax
  ·simp only [Bool.false_eq_true,if_false] at hb
   subst hb
   refine Out.pure hH _ (v:=.int k (mm false (mm false a b') c')) ?_ .int
   unfold execOp
   simp only [h,ha']
   simp [resolve,invoke,builtin,rep_int hx,rep_int hy,rep_int hz,Builtin.min_,Builtin.min2,mm]
  ·simp only [if_true] at hb
   subst hb
   refine Out.pure hH _ (v:=.int k (mm true (mm true a b') c')) ?_ .int
   unfold execOp
   simp only [h,ha']
   simp [resolve,invoke,builtin,rep_int hx,rep_int hy,rep_int hz,Builtin.max_,Builtin.max2,mm]
 ·cases hc
end
end Go.Proofs.YtakallenldpkiaaGreatDoor.Abs
