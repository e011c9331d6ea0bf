/- Bytes as a string. Generic over any program. -/
import Derived.Laws.BytesArg
import Derived.Test.YtakallenldpkiaaGreatDoorA8S
set_option linter.unusedVariables false
set_option linter.unusedSimpArgs false
set_option linter.unusedSectionVars false
namespace Go.Proofs.YtakallenldpkiaaGreatDoor.Abs
open Go
variable [DqC]
section
variable {P:Program} {D:AId → Prop} {m:AId → Option Blk} {ok:Nat → Prop} {heap:AId → Option AObj} {w:World} {o:Oper} {ρ:Operand → Value} {r:R} {nx:AId}
theorem bytes_flat : ∀ {es:List (List PVal)} {ls:List (List Value)} {xs:List Int},bytesP es = some xs → ls.length = es.length →
  (∀ (i:Nat) (e:List PVal) (l:List Value),es[i]? = some e → ls[i]? = some l → Reps w (okn ok m) D m true e l) → ls.flatten = xs.map (Value.int .u8)
 | [],ls,xs,h,hl,_=>by
  simp only [bytesP,Option.some.injEq] at h
  subst h
  have:ls = []:=List.length_eq_zero_iff.1 hl
  subst this
  rfl
 | e :: es,ls,xs,h,hl,hr=>by
  cases ls with
  | nil=>simp at hl
  | cons l ls =>
   have h0:=hr 0 e l rfl rfl
   unfold bytesP at h
   split at h
   ·rename_i heq
    cases heq
   ·rename_i n r heq
    injection heq with e1 e2
    subst e1 e2
    obtain ⟨ys,h1,rfl⟩:=Option.map_eq_some_iff.1 h
    obtain ⟨v,vs,rfl,hv,hvs⟩:=h0.uncons
    have:=hvs.unnil
    subst this
    have hv':=rep_int hv
    subst hv'
    have ih:=bytes_flat (es:=es) (ls:=ls) h1 (by simpa using hl) (fun i e l he hl'=>hr (i + 1) e l (by simpa using he) (by simpa using hl'))
    simp only [List.flatten_cons,ih,List.map_cons,List.singleton_append]
   ·cases h
theorem core_bstr {src dst e:TypeId} {x:Operand} {p:PVal} (h:o.op = .convert src dst x) (hs:P.underlying src = some (.slice e)) (he:P.underlying e = some (.int .u8)) (hd:P.underlying dst = some .string) (hH:SimH D m ok heap w)
  (hx:Rep w (okn ok m) D m false p (ρ x)) (hc:core .bstr [p] heap nx = some r):Out P o ρ D m ok heap w r:=by
 have hex : ∀ (v:Value) (s:ByteArray),ρ x = v → (convert src dst v).run P w = .ok (.string s) w → (execOp ρ o).run P w = .ok (.value (.string s)) w:=by
  intro v s hv hr
  unfold execOp
  simp only [h,hv]
  simp [Sem.run_bind,hr]
 simp only [core] at hc
 split at hc
 ·rename_i sz es rh hel
  split at hc
  ·rename_i xs hb
   split at hc
   ·injection hc with hc
    subst hc
    obtain ⟨A,n,cap,hv,hn,hsz,hcells⟩:=elems_rep hH hx hel
    refine Out.pure hH _ (v:=.string (strNums xs)) (hex _ _ hv ?_) .str
    rw [run_convert_bytes_string w src dst e _ _ _ hs he hd]
    have key : ∀ ad:Addr,(loadCells ad n).run P w = .ok (xs.map (Value.int .u8)).toArray w → (Conv.bytesToString (.slice (some ad) n cap)).run P w = .ok (.string (strNums xs)) w:=by
     intro ad hl
     rw [run_bytesToString w ad n cap xs hl,foldl_push_bytes]
     simp [strNums,ByteArray.empty,ByteArray.emptyWithCapacity]
     rfl
    rcases Nat.eq_zero_or_pos n with h0 | h0
    ·have hes:es = []:=List.length_eq_zero_iff.1 (by omega)
     subst hes
     simp only [bytesP,Option.some.injEq] at hb
     subst hb
     cases A with
     | none=>simp [Conv.bytesToString,strNums,ByteArray.empty,ByteArray.emptyWithCapacity]; rfl
     | some ad =>
      refine key ad ?_
      have:=run_loadCells_list (P:=P) w ad [] (fun j v hj=>by simp at hj)
      rw [h0]
      simpa using this
    ·obtain ⟨ad,rfl,ls,l1,l2,l3,l4,l5⟩:=hcells h0
     refine key ad ?_
     have hf:=bytes_flat hb l1 l4
     have:=run_loadCells_list (P:=P) w ad (xs.map (Value.int .u8)) (fun j v hj=>l5 j v (by rw [hf]; exact hj))
     have hlen:(xs.map (Value.int .u8)).length = n:=by
      rw [← hf,hn,← l1]
      have : ∀ (ls:List (List Value)),(∀ l ∈ ls,l.length = sz) → ls.flatten.length = ls.length * sz:=by
       intro ls
       induction ls with
       | nil=>intro _; simp
       | cons a ls ih=>intro hh; simp only [List.flatten_cons,List.length_append,List.length_cons,ih fun l hl=>hh l (List.mem_cons_of_mem _ hl),hh a List.mem_cons_self,Nat.add_mul]; omega
      rw [this ls l2]
      simp_all
     rw [hlen] at this
     simpa using this
   ·cases hc
  ·cases hc
 ·split at hc
  ·injection hc with hc
   subst hc
   have hv:ρ x = .slice none 0 0:=by
    generalize ρ x = v at hx
    cases hx
    rfl
   refine Out.pure hH _ (v:=.string (strNums [])) (hex _ _ hv ?_) .str
   rw [run_convert_bytes_nil w src e hs he 0 0 dst hd]
   rfl
  ·cases hc
end
end Go.Proofs.YtakallenldpkiaaGreatDoor.Abs
