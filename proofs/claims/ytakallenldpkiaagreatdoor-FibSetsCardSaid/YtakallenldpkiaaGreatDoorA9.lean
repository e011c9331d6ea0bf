/- Whatever the model's operation is turned into does what the model's operation does. Generic over any program. -/
import Derived.Test.YtakallenldpkiaaGreatDoorA8Q
set_option linter.unusedVariables false
set_option linter.unusedSimpArgs false
set_option linter.unusedSectionVars false
namespace Go.Proofs.YtakallenldpkiaaGreatDoor.Abs
open Go
variable [DqC]
section
variable {P:Program} {o:Oper} {ρ:Operand → Value} {D:AId → Prop} {m:AId → Option Blk} {ok:Nat → Prop} {heap:AId → Option AObj} {w:World} {nx:AId} {r:R}
theorem core_nw {op:AOp} {ps:List PVal} (hc:core op ps heap nx = some r):r.nw = [] ∨ r.nw = [nx]:=by
 unfold core at hc
 split at hc
 all_goals first
  | (cases hc; done)
  | (injection hc with hc; subst hc; simp; done)
  | (obtain ⟨_,_,rfl⟩:=Option.map_eq_some_iff.1 hc; simp; done)
  | ((repeat' split at hc) <;> first
     | (cases hc; done)
     | (injection hc with hc; subst hc; simp; done)
     | (obtain ⟨_,_,rfl⟩:=Option.map_eq_some_iff.1 hc; simp; done)
     | (unfold coreAppF at hc; (repeat' split at hc) <;> first
       | (cases hc; done)
       | (injection hc with hc; subst hc; simp; done)))
  | (unfold coreLF at hc; (repeat' split at hc) <;> first
       | (cases hc; done)
       | (injection hc with hc; subst hc; simp; done))
  | (unfold coreSF at hc; (repeat' split at hc) <;> first
       | (cases hc; done)
       | (injection hc with hc; subst hc; simp; done))
  | (unfold coreQ at hc; (repeat' split at hc) <;> first
       | (cases hc; done)
       | (injection hc with hc; subst hc; simp; done))
  | (unfold coreNil at hc; (repeat' split at hc) <;> first
       | (cases hc; done)
       | (injection hc with hc; subst hc; simp; done))
  | (unfold coreDel at hc; (repeat' split at hc) <;> first
       | (cases hc; done)
       | (injection hc with hc; subst hc; simp; done))
  | skip
 unfold coreBin at hc
 (repeat' split at hc) <;> first
  | (cases hc; done)
  | (injection hc with hc; subst hc; simp; done)
  | (obtain ⟨_,_,rfl⟩:=Option.map_eq_some_iff.1 hc; simp; done)
theorem nw_alloc {zs:List PVal} (hc:core (.alloc zs) [] heap nx = some r):r.nw ≠ []:=by
 simp only [core,Option.some.injEq] at hc; subst hc; simp
theorem nw_box {p:PVal} (hc:core .box [p] heap nx = some r):r.nw ≠ []:=by
 simp only [core] at hc
 split at hc
 ·injection hc with hc; subst hc; simp
 ·cases hc
theorem nw_bslice {sz ty:Nat} {ps:List PVal} (hc:core (.bslice sz ty) ps heap nx = some r):r.nw ≠ []:=by
 simp only [core] at hc
 (repeat' split at hc) <;> first
  | (cases hc; done)
  | (injection hc with hc; subst hc; simp; done)
theorem nw_append {sz ty by_:Nat} {p q:PVal} (hc:core (.append sz ty by_) [p,q] heap nx = some r):r.nw ≠ []:=by
 simp only [core] at hc
 (repeat' split at hc) <;> first
  | (cases hc; done)
  | (injection hc with hc; subst hc; simp; done)
  | (unfold coreAppF at hc; (repeat' split at hc) <;> first
    | (cases hc; done)
    | (injection hc with hc; subst hc; simp; done))
theorem nw_appendZ {sz ty by_:Nat} {zs:List PVal} {p q:PVal} (hc:core (.appendZ sz ty by_ zs) [p,q] heap nx = some r):r.nw ≠ []:=by
 cases p <;> cases q <;> (try simp only [core] at hc) <;> (try (cases hc; done)) <;> (repeat' split at hc) <;> first
  | (cases hc; done)
  | (injection hc with hc; subst hc; simp; done)
theorem nw_mkslice {sz ty by_:Nat} {zs:List PVal} {p q:PVal} (hc:core (.mkslice sz ty by_ zs) [p,q] heap nx = some r):r.nw ≠ []:=by
 cases p <;> cases q <;> (try simp only [core] at hc) <;> (try (cases hc; done)) <;> (repeat' split at hc) <;> first
  | (cases hc; done)
  | (injection hc with hc; subst hc; simp; done)
theorem nw_sliceZ {sz ty:Nat} {ps:List PVal} (hc:core (.sliceZ sz ty) ps heap nx = some r):r.nw ≠ []:=by
 rcases ps with _ | ⟨p,_ | ⟨q,_ | ⟨s,_ | ⟨_,_⟩⟩⟩⟩ <;> (try simp only [core] at hc) <;> try (cases hc; done)
 cases p <;> (try simp only [core] at hc) <;> try (cases hc; done)
 all_goals cases q <;> (try simp only [core] at hc) <;> try (cases hc; done)
 all_goals cases s <;> (try simp only [core] at hc) <;> try (cases hc; done)
 all_goals
  split at hc
  ·injection hc with hc; subst hc; simp
  ·cases hc
theorem core_sound0 {op:AOp} {xs:List Operand} {ps:List PVal} (ht:trans0 P o.op = some (op,xs)) (hH:SimH D m ok heap w) (hnx:r.nw ≠ [] → ¬ D nx) (hx:Reps w (okn ok m) D m false ps (xs.map ρ)) (hc:core op ps heap nx = some r):Out P o ρ D m ok heap w r:=by
 generalize ho:o.op = oo at ht
 unfold trans0 at ht
 split at ht
 ·injection ht with ht; injection ht with h1 h2; subst h1 h2
  obtain ⟨p,rfl,hp⟩:=hx.one
  exact core_mov (.inl ho) hH hp hc
 ·injection ht with ht; injection ht with h1 h2; subst h1 h2
  obtain ⟨p,rfl,hp⟩:=hx.one
  exact core_mov (.inr ho) hH hp hc
 ·injection ht with ht; injection ht with h1 h2; subst h1 h2
  obtain ⟨p,q,s,rfl,hp,hq,hs⟩:=hx.three
  exact core_pick ho hH hp hq hs hc
 ·
  split at ht
  ·rename_i i hi
   split at ht
   ·rename_i z hz
    obtain ⟨zs,hzs,h1⟩:=Option.map_eq_some_iff.1 ht
    injection h1 with h1 h2; subst h1 h2
    obtain rfl:ps = []:=List.eq_nil_of_length_eq_zero hx.1
    exact core_alloc ho hi hz hzs hH (hnx (nw_alloc (by simpa using hc))) hc
   ·cases ht
  ·cases ht
 ·injection ht with ht; injection ht with h1 h2; subst h1 h2
  obtain ⟨p,rfl,hp⟩:=hx.one
  exact core_box ho hH (hnx (nw_box hc)) hp hc
 ·
  split at ht
  ·rename_i i fields hi hd
   split at ht
   ·rename_i z hz
    split at ht
    ·cases ht
    ·rename_i hall
     split at ht
     ·rename_i zs prs xs' hzs hpo
      injection ht with ht; injection ht with h1 h2; subst h1 h2
      exact core_build ho hi hd hz (by cases hX:(fields.all fun f=>(P.info? f.type).isSome) with | true=>rfl | false=>rw [hX] at hall; simp at hall) hzs hpo hH hx hc
     ·cases ht
   ·cases ht
  ·rename_i i len e hi hd
   split at ht
   ·rename_i z ie hz hie
    obtain ⟨zs,hzs,h1⟩:=Option.map_eq_some_iff.1 ht
    injection h1 with h1 h2; subst h1 h2
    exact core_buildArr ho hi hd hz hie hzs hH hx hc
   ·cases ht
  ·cases ht
 ·
  split at ht
  ·rename_i e hte
   split at ht
   ·rename_i i xs' hi hpf
    split at ht
    ·rename_i hcond
     injection ht with ht; injection ht with h1 h2; subst h1 h2
     exact core_bslice ho hte hi hpf hcond.1 hcond.2.1 hcond.2.2.1 hcond.2.2.2 hH (hnx (nw_bslice hc)) hx hc
    ·cases ht
   ·cases ht
  ·cases ht
 ·obtain ⟨k,hk,h1⟩:=Option.map_eq_some_iff.1 ht
  injection h1 with h1 h2; subst h1 h2
  obtain ⟨p,rfl,hp⟩:=hx.one
  exact core_load ho hk hH hp hc
 ·split at ht
  ·rename_i i hi
   injection ht with ht; injection ht with h1 h2; subst h1 h2
   obtain ⟨p,q,rfl,hp,hq⟩:=hx.two
   exact core_store ho hi hH hp hq hc
  ·cases ht
 ·injection ht with ht; injection ht with h1 h2; subst h1 h2
  obtain ⟨p,rfl,hp⟩:=hx.one
  exact core_nilchk ho hH hp hc
 ·obtain ⟨ek,hek,h1⟩:=Option.map_eq_some_iff.1 ht
  injection h1 with h1 h2; subst h1 h2
  obtain ⟨p,q,rfl,hp,hq⟩:=hx.two
  exact core_bin ho hek hH hp hq hc
 ·injection ht with ht; injection ht with h1 h2; subst h1 h2
  obtain ⟨p,rfl,hp⟩:=hx.one
  exact core_unNot ho hH hp hc
 ·injection ht with ht; injection ht with h1 h2; subst h1 h2
  obtain ⟨p,rfl,hp⟩:=hx.one
  exact core_unNeg ho hH hp hc
 ·injection ht with ht; injection ht with h1 h2; subst h1 h2
  obtain ⟨p,rfl,hp⟩:=hx.one
  exact core_unInv ho hH hp hc
 ·
  split at ht
  ·rename_i k' k hs hd
   injection ht with ht; injection ht with h1 h2; subst h1 h2
   obtain ⟨p,rfl,hp⟩:=hx.one
   exact core_conv ho hs hd hH hp hc
  ·rename_i e hs hd
   split at ht
   ·rename_i he
    injection ht with ht; injection ht with h1 h2; subst h1 h2
    obtain ⟨p,rfl,hp⟩:=hx.one
    exact core_bstr ho hs he hd hH hp hc
   ·cases ht
  ·cases ht
 ·
  split at ht
  ·rename_i fields hs
   split at ht
   ·rename_i fl hf
    split at ht
    ·rename_i i hi
     split at ht
     ·cases ht
     ·rename_i hn
      injection ht with ht; injection ht with h1 h2; subst h1 h2
      obtain ⟨p,rfl,hp⟩:=hx.one
      exact core_fldA ho hs hf hi hn hH hp hc
    ·cases ht
   ·cases ht
  ·cases ht
 ·split at ht
  ·rename_i fields hs
   split at ht
   ·rename_i fl hf
    obtain ⟨k,hk,h1⟩:=Option.map_eq_some_iff.1 ht
    injection h1 with h1 h2; subst h1 h2
    obtain ⟨p,rfl,hp⟩:=hx.one
    exact core_fld ho hs hf hk hH hp hc
   ·cases ht
  ·cases ht
 ·
  split at ht
  ·rename_i e hte
   obtain ⟨ti,hi,h1⟩:=Option.map_eq_some_iff.1 ht
   injection h1 with h1 h2; subst h1 h2
   obtain ⟨p,q,rfl,hp,hq⟩:=hx.two
   exact core_idxA ho hte hi hH hp hq hc
  ·rename_i len e hte
   obtain ⟨ti,hi,h1⟩:=Option.map_eq_some_iff.1 ht
   injection h1 with h1 h2; subst h1 h2
   obtain ⟨p,q,rfl,hp,hq⟩:=hx.two
   exact core_idxAA ho hte hi hH hp hq hc
  ·cases ht
 ·
  split at ht
  ·rename_i hte
   injection ht with ht; injection ht with h1 h2; subst h1 h2
   obtain ⟨p,q,rfl,hp,hq⟩:=hx.two
   exact core_idxStr ho hte hH hp hq hc
  ·rename_i len e hte
   split at ht
   ·rename_i ti k hi hk
    injection ht with ht; injection ht with h1 h2; subst h1 h2
    obtain ⟨p,q,rfl,hp,hq⟩:=hx.two
    exact core_idxV ho hte hi hk hH hp hq hc
   ·cases ht
  ·cases ht
 ·injection ht with ht; injection ht with h1 h2; subst h1 h2
  obtain ⟨p,rfl,hp⟩:=hx.one
  exact core_ext ho hH hp hc
 ·injection ht with ht; injection ht with h1 h2; subst h1 h2
  exact core_mkfn ho hH hx hc
 ·
  split at ht
  ·cases ht
  ·rename_i d hn hd
   injection ht with ht; injection ht with h1 h2; subst h1 h2
   obtain ⟨p,rfl,hp⟩:=hx.one
   exact core_mkif ho hd (fun ms e=>hn ms e) hH hp hc
  ·cases ht
 ·
  split at ht
  ·rename_i x t ha hat
   split at ht
   ·rename_i hd
    injection ht with ht; injection ht with h1 h2; subst h1 h2
    obtain ⟨p,rfl,hp⟩:=hx.one
    exact core_lenS ho ha hat hd hH hp hc
   ·rename_i e hd
    injection ht with ht; injection ht with h1 h2; subst h1 h2
    obtain ⟨p,rfl,hp⟩:=hx.one
    exact core_lenL ho ha hat hd hH hp hc
   ·rename_i k e hd
    injection ht with ht; injection ht with h1 h2; subst h1 h2
    obtain ⟨p,rfl,hp⟩:=hx.one
    exact core_lenM ho ha hat hd hH hp hc
   ·cases ht
  ·cases ht
 ·
  split at ht
  ·rename_i s x t t' ha hat
   split at ht
   ·rename_i htt
    subst htt
    split at ht
    ·rename_i e hd
     split at ht
     ·rename_i i hi
      split at ht
      ·rename_i z hz
       split at ht
       ·rename_i hcond
        injection ht with ht; injection ht with h1 h2; subst h1 h2
        obtain ⟨p,q,rfl,hp,hq⟩:=hx.two
        exact core_append ho ha hat hd hi hz hcond.1 hcond.2 hH (hnx (nw_append hc)) hp hq hc
       ·cases ht
      ·cases ht
     ·cases ht
    ·cases ht
   ·split at ht
    ·rename_i e kn hd hdn
     split at ht
     ·rename_i i hi
      split at ht
      ·rename_i z hz
       split at ht
       ·rename_i hcond
        obtain ⟨zs,hzs,h1⟩:=Option.map_eq_some_iff.1 ht
        injection h1 with h1 h2; subst h1 h2
        obtain ⟨p,q,rfl,hp,hq⟩:=hx.two
        exact core_appendZ ho ha hat hd hdn hi hz hcond.1 hcond.2 hzs hH (hnx (nw_appendZ hc)) hp hq hc
       ·cases ht
      ·cases ht
     ·cases ht
    ·cases ht
  ·cases ht
 ·
  split at ht
  ·rename_i x t ha hat
   split at ht
   ·rename_i e hd
    injection ht with ht; injection ht with h1 h2; subst h1 h2
    obtain ⟨p,rfl,hp⟩:=hx.one
    exact core_capL ho ha hat hd hH hp hc
   ·cases ht
  ·cases ht
 ·
  split at ht
  ·rename_i d s t t' ha hat
   split at ht
   ·rename_i e hd
    obtain ⟨i,hi,h1⟩:=Option.map_eq_some_iff.1 ht
    injection h1 with h1 h2; subst h1 h2
    obtain ⟨p,q,rfl,hp,hq⟩:=hx.two
    exact core_copyK ho ha hat hd hi hH hp hq hc
   ·cases ht
  ·cases ht
 ·
  split at ht
  ·rename_i x t ha hat
   split at ht
   ·rename_i e hd
    split at ht
    ·rename_i i hi
     split at ht
     ·rename_i z hz
      split at ht
      ·rename_i hzz
       obtain ⟨zs,hzs,h1⟩:=Option.map_eq_some_iff.1 ht
       injection h1 with h1 h2; subst h1 h2
       obtain ⟨p,rfl,hp⟩:=hx.one
       exact core_clearK ho ha hat hd hi hz hzz hzs hH hp hc
      ·cases ht
     ·cases ht
    ·cases ht
   ·cases ht
  ·cases ht
 ·
  split at ht
  ·rename_i x y t rest ha hat
   split at ht
   ·rename_i kt e hte
    split at ht
    ·rename_i d hk
     obtain ⟨lk,hlk,h1⟩:=Option.map_eq_some_iff.1 ht
     injection h1 with h1 h2; subst h1 h2
     obtain ⟨p,q,rfl,hp,hq⟩:=hx.two
     exact core_mapdel ho ha hat hte hk hlk hH hp hq hc
    ·cases ht
   ·cases ht
  ·cases ht
 ·
  split at ht
  ·rename_i x y ha
   injection ht with ht; injection ht with h1 h2; subst h1 h2
   obtain ⟨p,q,rfl,hp,hq⟩:=hx.two
   exact core_minmax ho rfl ha hH hp hq hc
  ·rename_i x y z ha
   injection ht with ht; injection ht with h1 h2; subst h1 h2
   obtain ⟨p,q,s,rfl,hp,hq,hs⟩:=hx.three
   exact core_minmax3 ho rfl ha hH hp hq hs hc
  ·cases ht
 ·split at ht
  ·rename_i x y ha
   injection ht with ht; injection ht with h1 h2; subst h1 h2
   obtain ⟨p,q,rfl,hp,hq⟩:=hx.two
   exact core_minmax ho rfl ha hH hp hq hc
  ·rename_i x y z ha
   injection ht with ht; injection ht with h1 h2; subst h1 h2
   obtain ⟨p,q,s,rfl,hp,hq,hs⟩:=hx.three
   exact core_minmax3 ho rfl ha hH hp hq hs hc
  ·cases ht
 ·
  split at ht
  ·rename_i hd
   injection ht with ht; injection ht with h1 h2; subst h1 h2
   exact core_sliceS ho hd hH hx hc
  ·rename_i e hd
   obtain ⟨ti,hti,h1⟩:=Option.map_eq_some_iff.1 ht
   injection h1 with h1 h2; subst h1 h2
   exact core_slice ho hd hti hH hx hc
  ·cases ht
 ·
  split at ht
  ·rename_i e hd
   obtain ⟨ti,hti,h1⟩:=Option.bind_eq_some_iff.1 ht
   split at h1
   ·rename_i hpos
    injection h1 with h1; injection h1 with h1 h2; subst h1 h2
    exact core_sliceZ ho hd hti hpos hH (hnx (nw_sliceZ hc)) hx hc
   ·cases h1
  ·cases ht
 ·split at ht
  ·rename_i e hd
   obtain ⟨ti,hti,h1⟩:=Option.map_eq_some_iff.1 ht
   injection h1 with h1 h2; subst h1 h2
   exact core_slice3 ho hd hti hH hx hc
  ·cases ht
 ·injection ht with ht; injection ht with h1 h2; subst h1 h2
  obtain rfl:ps = []:=List.eq_nil_of_length_eq_zero hx.1
  exact core_mkmap ho hH (hnx (by simp only [core,Option.some.injEq] at hc; subst hc; simp)) hc
 ·
  split at ht
  ·rename_i e hte
   split at ht
   ·rename_i i hi
    split at ht
    ·rename_i z hz
     split at ht
     ·rename_i hcond
      obtain ⟨zs,hzs,h1⟩:=Option.map_eq_some_iff.1 ht
      injection h1 with h1 h2; subst h1 h2
      obtain ⟨p,q,rfl,hp,hq⟩:=hx.two
      exact core_mkslice ho hte hi hz hcond.1 hcond.2 hzs hH (hnx (nw_mkslice hc)) hp hq hc
     ·cases ht
    ·cases ht
   ·cases ht
  ·cases ht
 ·
  split at ht
  ·rename_i k e hte
   split at ht
   ·rename_i d ie hk hie
    split at ht
    ·rename_i lk z hlk hz
     obtain ⟨zp,hzp,h1⟩:=Option.map_eq_some_iff.1 ht
     injection h1 with h1 h2; subst h1 h2
     obtain ⟨p,q,rfl,hp,hq⟩:=hx.two
     exact core_lookup ho hte hk hie hlk hz hzp hH hp hq hc
    ·rename_i z hlk hz
     split at ht
     ·rename_i fs ks hks
      obtain ⟨zp,hzp,h1⟩:=Option.map_eq_some_iff.1 ht
      injection h1 with h1 h2; subst h1 h2
      obtain ⟨p,q,rfl,hp,hq⟩:=hx.two
      exact core_lookupF ho hte hk hie hks hz hzp hH hp hq hc
     ·cases ht
    ·cases ht
   ·cases ht
  ·cases ht
 ·
  split at ht
  ·rename_i k e hte
   split at ht
   ·rename_i d hk
    split at ht
    ·rename_i lk hlk
     injection ht with h1; injection h1 with h1 h2; subst h1 h2
     obtain ⟨p,q,s,rfl,hp,hq,hs⟩:=hx.three
     exact core_mapset (.inl ho) hte hk hlk hH hp hq hs hc
    ·split at ht
     ·rename_i ks _ hks
      injection ht with h1; injection h1 with h1 h2; subst h1 h2
      obtain ⟨p,q,s,rfl,hp,hq,hs⟩:=hx.three
      exact core_mapsetF (.inl ho) hte hk (by assumption) hH hp hq hs hc
     ·cases ht
   ·cases ht
  ·cases ht
 ·
  split at ht
  ·rename_i k e hte
   split at ht
   ·rename_i d hk
    split at ht
    ·rename_i lk hlk
     injection ht with h1; injection h1 with h1 h2; subst h1 h2
     obtain ⟨p,q,s,rfl,hp,hq,hs⟩:=hx.three
     exact core_mapset (.inr ho) hte hk hlk hH hp hq hs hc
    ·split at ht
     ·rename_i ks _ hks
      injection ht with h1; injection h1 with h1 h2; subst h1 h2
      obtain ⟨p,q,s,rfl,hp,hq,hs⟩:=hx.three
      exact core_mapsetF (.inr ho) hte hk (by assumption) hH hp hq hs hc
     ·cases ht
   ·cases ht
  ·cases ht
 ·injection ht with ht; injection ht with h1 h2; subst h1
  simp [core] at hc
 ·injection ht with ht; injection ht with h1 h2; subst h1
  simp [core] at hc
 ·injection ht with ht; injection ht with h1 h2; subst h1
  simp [core] at hc
theorem core_soundQ {op:AOp} {xs:List Operand} {ps:List PVal} (ht:transQ P o.op = some (some (op,xs))) (hH:SimH D m ok heap w) (hnx:r.nw ≠ [] → ¬ D nx) (hx:Reps w (okn ok m) D m false ps (xs.map ρ)) (hc:core op ps heap nx = some r):Out P o ρ D m ok heap w r:=by
 generalize ho:o.op = oo at ht
 unfold transQ at ht
 split at ht
 ·split at ht
  ·injection ht with ht; injection ht with ht; injection ht with h1 h2; subst h1 h2
   obtain rfl:ps = []:=List.eq_nil_of_length_eq_zero hx.1
   exact core_qmk ho hH (hnx (by simp only [core,coreQ,Option.some.injEq] at hc; subst hc; simp)) hc
  ·cases ht
 ·split at ht
  ·rename_i hq
   injection ht with ht; obtain ⟨z,hz,h1⟩:=Option.map_eq_some_iff.1 ht
   injection h1 with h1 h2; subst h1 h2
   obtain ⟨p,q,rfl,hp,hq'⟩:=hx.two
   exact core_qlook ho hq hz hH hp hq' hc
  ·cases ht
 ·split at ht
  ·rename_i hq
   injection ht with ht; obtain ⟨z,hz,h1⟩:=Option.map_eq_some_iff.1 ht
   injection h1 with h1 h2; subst h1 h2
   obtain ⟨p,q,rfl,hp,hq'⟩:=hx.two
   exact core_qent ho hq hz hH hp hq' hc
  ·cases ht
 ·split at ht
  ·injection ht with ht; injection ht with ht; injection ht with h1 h2; subst h1 h2
   obtain ⟨p,q,s,rfl,hp,hq',hs⟩:=hx.three
   exact core_qput ho hH hp hq' hs hc
  ·cases ht
 ·split at ht
  ·rename_i x t ha hat
   split at ht
   ·rename_i hq
    injection ht with ht; injection ht with ht; injection ht with h1 h2; subst h1 h2
    obtain ⟨p,rfl,hp⟩:=hx.one
    exact core_qlen ho ha hat hq hH hp hc
   ·cases ht
  ·cases ht
 ·split at ht
  ·rename_i x y t rest ha hat
   split at ht
   ·rename_i hq
    injection ht with ht; injection ht with ht; injection ht with h1 h2; subst h1 h2
    obtain ⟨p,q,rfl,hp,hq'⟩:=hx.two
    exact core_qdel ho ha hat hq hH hp hq' hc
   ·cases ht
  ·cases ht
 ·cases ht
theorem core_sound {op:AOp} {xs:List Operand} {ps:List PVal} (ht:trans P o.op = some (op,xs)) (hH:SimH D m ok heap w) (hnx:r.nw ≠ [] → ¬ D nx) (hx:Reps w (okn ok m) D m false ps (xs.map ρ)) (hc:core op ps heap nx = some r):Out P o ρ D m ok heap w r:=by
 unfold trans at ht
 split at ht
 ·rename_i r' hr
  subst ht
  exact core_soundQ hr hH hnx hx hc
 ·exact core_sound0 ht hH hnx hx hc
end
end Go.Proofs.YtakallenldpkiaaGreatDoor.Abs
