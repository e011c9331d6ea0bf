/- make of a slice; copy onto a row. Generic over any program. -/
import Derived.Laws.MakeOwn
import Derived.Test.YtakallenldpkiaaGreatDoorA8B
set_option linter.unusedVariables false
set_option linter.unusedSimpArgs false
set_option linter.unusedSectionVars false
namespace Go.Proofs.YtakallenldpkiaaGreatDoor.Abs
open Go
variable [DqC]
section
variable {P:Program} {o:Oper} {ρ:Operand → Value} {D:AId → Prop} {m:AId → Option Blk} {ok:Nat → Prop} {heap:AId → Option AObj} {w:World} {nx:AId} {r:R}
theorem weak1_rep {c:Bool} {s:Option Nat} {p:PVal} {v:Value} (h:Rep w (okn ok m) D m c p v):Rep w (okn ok m) D m c (weak1 s p) v:=by
 unfold weak1
 split
 ·have:=rep_nils h
  subst this
  exact .ro (ad:=⟨0,0,none⟩) (fun _ _=>undef) rfl (Nat.le_refl _) (Nat.zero_le _) (fun e he=>by simp at he) (fun h=>by simp at h) (fun i j e p he=>by simp at he) (fun i j e p he=>by simp at he)
 ·exact h
theorem weakW_reps {c:Bool} : ∀ (ss:List (Option Nat)) (zs:List PVal) (vs:List Value),Reps w (okn ok m) D m c zs vs → Reps w (okn ok m) D m c (weakW ss zs) vs
 | [],zs,vs,h=>h
 | s :: ss,[],vs,h=>h
 | s :: ss,p :: ps,vs,h=>by
  obtain ⟨v,vs',rfl,h1,h2⟩:=h.uncons
  exact Reps.cons (weak1_rep h1) (weakW_reps ss ps vs' h2)
theorem core_mkslice {t e:TypeId} {l c:Operand} {i:TypeInfo} {z:Value} {zs:List PVal} {ss:List (Option Nat)} {p q:PVal} (h:o.op = .makeSlice t l c) (ht:P.underlying t = some (.slice e)) (hi:P.info? e = some i) (hz:i.zero = some z)
  (hpos:0 < i.size) (hzz:z.cells.size = i.size) (hzs:zeroC z = some zs) (hH:SimH D m ok heap w) (hnx : ¬ D nx) (hl:Rep w (okn ok m) D m false p (ρ l)) (hq:Rep w (okn ok m) D m false q (ρ c)) (hc:core (.mkslice i.size e i.bytes (weakW ss zs)) [p,q] heap nx = some r):Out P o ρ D m ok heap w r:=by
 cases p <;> cases q <;> simp only [core] at hc <;> try (cases hc; done)
 rename_i k1 l1 k2 c1
 split at hc
 ·rename_i hcond
  obtain ⟨c1',c2,c3,c4⟩:=hcond
  subst c1'
  injection hc with hc
  subst hc
  obtain ⟨n,rfl⟩ : ∃ n:Nat,l1 = n:=⟨l1.toNat,by omega⟩
  simp only [Int.toNat_natCast] at c3 c4 ⊢
  have hb:(i.bytes:Int) * (n:Int) ≤ 281474976710656:=by
   have:((i.bytes * n:Nat):Int) ≤ 281474976710656:=by omega
   rwa [Int.natCast_mul] at this
  have h63:(n:Int) ≤ 9223372036854775807:=by simp only [maxLen] at c4; omega
  have hm:=run_make (P:=P) w t e i z ht hi hz k1 k2 (n:Int) (n:Int) (by omega) (Int.le_refl _) hb h63
  simp only [Int.toNat_natCast] at hm
  have hrun:(execOp ρ o).run P w = .ok (.value (.slice (some ⟨w.heap.size,0,none⟩) n n)) (w.alloc (.cells (madeCells z.cells (n * i.size)) e)):=by
   unfold execOp
   simp only [h]
   rw [rep_int hl,rep_int hq]
   simp [hm]
  have hcells:(madeCells z.cells (n * i.size)).toList = (List.replicate n z.cells.toList).flatten:=by
   rw [← zeroCells_flat,← hzz]
   rfl
  obtain ⟨hz1,hz2⟩:=zeroC_rep (w:=w) (ok:=okn ok m) (D:=D) (m:=m) (c:=true) hzs
  have hw:=weakW_reps ss _ _ hz1
  have hls : ∀ l ∈ List.replicate n z.cells.toList,l.length = i.size:=fun l hl=>by rw [List.eq_of_mem_replicate hl]; simpa using hzz
  have h1 : ∀ l ∈ List.replicate n z.cells.toList,∀ u ∈ l,u.oneCell' = true:=fun l hl u hu=>by rw [List.eq_of_mem_replicate hl] at hu; exact hz2 u hu
  have hzl:(weakW ss zs).length = i.size:=by rw [hw.1]; simpa using hzz
  refine Out.new hH hnx (.row i.size e (List.replicate n (weakW ss zs))) _ n _ hrun (fun m' D' hst hD hm=>?_) (fun m' D' hst hD hm hd hn=>?_)
  ·exact row_new (ls:=List.replicate n z.cells.toList) (heap_alloc_new w _) (by rw [size_madeCells]) (by rw [hcells]; exact List.prefix_rfl) (by simp) c4 hpos (fun e he=>by rw [List.eq_of_mem_replicate he]; exact hzl) hls (by simp) h1
    (fun k e l he hl=>(replicate_reps hw he hl).mono fun p v hrp=>hrp.step hst hD hm)
  ·refine .own hd rfl fun B hB=>?_
   rw [hn] at hB
   injection hB with hB
   subst hB
   exact ⟨⟨w.heap.size,0,none⟩,n,rfl,rfl,rfl,.inl (by simp),Nat.le_refl _,by omega,c4⟩
 ·cases hc
theorem row_overE {w':World} {D':AId → Prop} {m':AId → Option Blk} {sz ty lo b tot:Nat} {es es2:List (List PVal)} {ls:List (List Value)} {vs vs':Array Value} (hob:RepObj w ok D m (.row sz ty es) (.at b tot))
  (hb:w.heap[b]? = some (.cells vs ty (0,0))) (hb':w'.heap[b]? = some (.cells vs' ty (0,0))) (hs:vs'.size = vs.size)
  (hat : ∀ j,vs'.toList[j]? = if lo * sz ≤ j ∧ j < lo * sz + ls.flatten.length then ls.flatten[j - lo * sz]? else vs.toList[j]?)
  (hll:ls.length = es2.length) (hls : ∀ l ∈ ls,l.length = sz) (h1 : ∀ l ∈ ls,∀ u ∈ l,u.oneCell' = true) (hes2 : ∀ e ∈ es2,e.length = sz)
  (hr : ∀ (k:Nat) (e:List PVal) (l:List Value),es2[k]? = some e → ls[k]? = some l → Reps w (okn ok m) D m true e l) (hfit:lo + es2.length ≤ es.length)
  (hst : ∀ p v,Rep w (okn ok m) D m true p v → Rep w' (okn ok m') D' m' true p v):RepObj w' ok D' m' (.row sz ty (overE es lo es2)) (.at b tot):=by
 obtain ⟨vs0,g1,g2,g3,g4,g5,g6,g7⟩:=hob
 rw [hb] at g1
 injection g1 with g1
 injection g1 with g1
 subst g1
 have hfl:=flat_len hls
 rw [hll] at hfl
 refine ⟨vs',hb',by rw [hs,g2],by rw [overE_length hfit]; exact g3,g4,g5,fun e he=>?_,fun i j e p he hp=>?_⟩
 ·simp only [overE,List.mem_append] at he
  rcases he with (he | he) | he
  ·exact g6 e (List.mem_of_mem_take he)
  ·exact hes2 e he
  ·exact g6 e (List.mem_of_mem_drop he)
 ·rw [overE_get hfit] at he
  have hatj:=hat (i * sz + j)
  rw [hfl] at hatj
  by_cases hin:lo ≤ i ∧ i < lo + es2.length
  ·rw [if_pos hin] at he
   have hj:j < sz:=by rw [← hes2 e (List.mem_of_getElem? he)]; exact (List.getElem?_eq_some_iff.1 hp).1
   have e1:i * sz = lo * sz + (i - lo) * sz:=by rw [← Nat.add_mul]; congr 1; omega
   have e2:(i - lo + 1) * sz ≤ es2.length * sz:=Nat.mul_le_mul_right _ (by omega)
   rw [Nat.succ_mul] at e2
   rw [if_pos (by omega)] at hatj
   have hil:i - lo < ls.length:=by omega
   have hg:=flat_get hls (List.getElem?_eq_getElem hil) hj
   rw [show i * sz + j - lo * sz = (i - lo) * sz + j by omega,hg] at hatj
   have hlen:=hls _ (List.getElem_mem hil)
   have hjl:j < ls[i - lo].length:=by rw [hlen]; exact hj
   rw [List.getElem?_eq_getElem hjl] at hatj
   exact ⟨ls[i - lo][j],by rw [← Array.getElem?_toList]; exact hatj,h1 _ (List.getElem_mem hil) _ (List.getElem_mem hjl),hst _ _ ((hr _ e _ he (List.getElem?_eq_getElem hil)).2 j p _ hp (List.getElem?_eq_getElem hjl))⟩
  ·rw [if_neg hin] at he
   have hj:j < sz:=by rw [← g6 e (List.mem_of_getElem? he)]; exact (List.getElem?_eq_some_iff.1 hp).1
   have hne : ¬ (lo * sz ≤ i * sz + j ∧ i * sz + j < lo * sz + es2.length * sz):=by
    rintro ⟨q1,q2⟩
    rcases Nat.lt_or_ge i lo with hlt | hge
    ·have:=Nat.mul_le_mul_right sz (show i + 1 ≤ lo from hlt)
     rw [Nat.succ_mul] at this
     omega
    ·have:=Nat.mul_le_mul_right sz (show lo + es2.length ≤ i by omega)
     rw [Nat.add_mul] at this
     omega
   rw [if_neg hne] at hatj
   obtain ⟨u,k1,k2,k3⟩:=g7 i j e p he hp
   exact ⟨u,by rw [← Array.getElem?_toList,hatj,Array.getElem?_toList]; exact k1,k2,hst _ _ k3⟩
theorem core_copyK {args:Array Operand} {ats:Array TypeId} {d s:Operand} {t t' e:TypeId} {i:TypeInfo} {p q:PVal} (h:o.op = .call { callee:=.builtin .copy,args,argTypes:=ats }) (ha:args.toList = [d,s]) (hat:ats.toList = [t,t'])
  (ht:P.underlying t = some (.slice e)) (hi:P.info? e = some i) (hH:SimH D m ok heap w) (hd:Rep w (okn ok m) D m false p (ρ d)) (hx:Rep w (okn ok m) D m false q (ρ s)) (hc:core (.copy i.size) [p,q] heap nx = some r):Out P o ρ D m ok heap w r:=by
 have hc0:=hc
 cases p <;> simp only [core] at hc <;> try (cases hc; done)
 case own id sz1 lo n =>
  cases ho:heap id with
  | none=>simp [ho] at hc
  | some ob =>
   cases ob <;> simp only [ho] at hc <;> try (cases hc; done)
   case full sz' ty es=>exact core_copy h ha hat ht hi hH hd hx hc0 ⟨_,_,_,_,_,_,_,rfl,ho⟩
   case row sz' ty es =>
    have hop:=exec_builtin2 h ha hat
    cases hel:elemsU heap n q with
    | none=>simp [hel] at hc
    | some y =>
     obtain ⟨sz2,es2,rh2⟩:=y
     simp only [hel] at hc
     split at hc
     ·rename_i hcond
      obtain ⟨c1,c2,c3,c4,c5⟩:=hcond
      subst c1 c2 c3
      injection hc with hc
      subst hc
      obtain ⟨A2,n2,cap2,x1,x2,x3,x4⟩:=elemsU_are hH hx hel
      obtain ⟨B,hB,hob⟩:=hH.obj id _ ho
      cases hd with
      | own hd' _ hp =>
       have hv:=hp B hB
       cases B with
       | nil=>obtain ⟨_,_,e3⟩:=hv; omega
       | «at» b tot =>
        obtain ⟨cap,e1,e2,e3,e4⟩:=own_addr hv (.inl c5)
        have hob':=hob
        obtain ⟨vs,g1,g2,g3,g4,g5,g6,g7⟩:=hob
        have hmin:Nat.min n2 n = es2.length:=by rw [x3]; exact Nat.min_comm _ _
        obtain ⟨ls,y1,y2,y3,y4,y5⟩ : ∃ ls:List (List Value),ls.length = es2.length ∧ (∀ l ∈ ls,l.length = i.size) ∧ (∀ l ∈ ls,∀ u ∈ l,u.oneCell' = true) ∧
          (∀ (k:Nat) (e:List PVal) (l:List Value),es2[k]? = some e → ls[k]? = some l → Reps w (okn ok m) D m true e l) ∧
          (Builtin.firstCells i.size es2.length (ρ s)).run P w = .ok ls.flatten.toArray w:=by
         rcases Nat.eq_zero_or_pos es2.length with h0 | hpos
         ·have he2:es2 = []:=List.eq_nil_of_length_eq_zero h0
          subst he2
          refine ⟨[],rfl,fun l hl=>by simp at hl,fun l hl=>by simp at hl,fun k e l he=>by simp at he,?_⟩
          rw [x1]
          cases A2 <;> simp [Builtin.firstCells,loadCells,loadCellsFrom]
         ·obtain ⟨ad,hA,ls,y1,y2,y3,y4,y5⟩:=x4.2 hpos
          refine ⟨ls,y1,y2,y3,y4,?_⟩
          have:=run_loadCells_list (P:=P) w ad ls.flatten y5
          rw [flat_len y2,y1] at this
          rw [x1,hA]
          simpa [Builtin.firstCells] using this
        have hfl:=flat_len y2
        rw [y1] at hfl
        have hle:lo * i.size + es2.length * i.size ≤ vs.size:=by
         rw [g2,← Nat.add_mul]
         exact Nat.mul_le_mul_right _ (by omega)
        obtain ⟨w',vs',r1,r2,r3,r4,r5,r6,r7,r8,r9⟩:=setCells_spec (P:=P) ls.flatten w b (lo * i.size) vs ty 0 g1 (by rw [hfl]; omega) (fun u hu=>by obtain ⟨l,hl,hu⟩:=List.mem_flatten.1 hu; exact y3 l hl u hu)
        have hrun:(execOp ρ o).run P w = .ok (.value (.int .i64 es2.length)) w':=by
         unfold execOp
         simp only [hop]
         rw [x1] at y5
         have hx1:=x1
         simp [resolve,invoke,builtin,Builtin.copy_,run_underlying ht,e1,x1,Builtin.lenOf,run_sizeOf hi,hmin,y5,r1,goInt]
        exact Out.wrote hH hB _ _ hrun r5 r6 r7 r8 r9 (fun hst=>row_overE hob' g1 r2 r3 (by simpa using r4) y1 y2 y3 x4.1 y4 (by omega) (fun p v hrp=>hrp.step hst (fun _ hd=>hd) (fun _ _=>.inl rfl))) .int
     ·cases hc
theorem core_clearK {args:Array Operand} {ats:Array TypeId} {x:Operand} {t e:TypeId} {i:TypeInfo} {z:Value} {zs:List PVal} {ss:List (Option Nat)} {p:PVal} (h:o.op = .call { callee:=.builtin .clear,args,argTypes:=ats }) (ha:args.toList = [x]) (hat:ats.toList = [t])
  (ht:P.underlying t = some (.slice e)) (hi:P.info? e = some i) (hz:i.zero = some z) (hzz:z.cells.size = i.size) (hzs:zeroC z = some zs) (hH:SimH D m ok heap w) (hx:Rep w (okn ok m) D m false p (ρ x)) (hc:core (.clear i.size (weakW ss zs)) [p] heap nx = some r):Out P o ρ D m ok heap w r:=by
 have ha':args = #[x]:=by rw [← Array.toArray_toList (xs:=args),ha]
 have hat':ats = #[t]:=by rw [← Array.toArray_toList (xs:=ats),hat]
 obtain ⟨hz1,hz2⟩:=zeroC_rep (w:=w) (ok:=okn ok m) (D:=D) (m:=m) (c:=true) hzs
 have hw':=weakW_reps ss _ _ hz1
 have hc0:=hc
 cases p <;> simp only [core] at hc <;> try (cases hc; done)
 case own id sz1 lo n =>
  cases ho:heap id with
  | none=>simp [ho] at hc
  | some ob =>
   cases ob <;> simp only [ho] at hc <;> try (cases hc; done)
   case full sz' ty es=>exact core_clear h ha hat ht hi hz hzz hzs hH hx hc0 hw' ⟨_,_,_,_,_,_,_,rfl,ho⟩
   case row sz' ty es =>
    split at hc
    ·rename_i hcond
     obtain ⟨c1,c2,c3,c4⟩:=hcond
     subst c1 c2
     injection hc with hc
     subst hc
     obtain ⟨B,hB,hob⟩:=hH.obj id _ ho
     cases hx with
     | own hd' _ hp =>
      have hv:=hp B hB
      cases B with
      | nil=>obtain ⟨_,_,e3⟩:=hv; omega
      | «at» b tot =>
       obtain ⟨cap,e1,e2,e3,e4⟩:=own_addr hv (.inl c4)
       have hob':=hob
       obtain ⟨vs,g1,g2,g3,g4,g5,g6,g7⟩:=hob
       have hls : ∀ l ∈ List.replicate n z.cells.toList,l.length = i.size:=fun l hl=>by rw [List.eq_of_mem_replicate hl]; simpa using hzz
       have h1 : ∀ l ∈ List.replicate n z.cells.toList,∀ u ∈ l,u.oneCell' = true:=fun l hl u hu=>by rw [List.eq_of_mem_replicate hl] at hu; exact hz2 u hu
       have hzl:(weakW ss zs).length = i.size:=by rw [hw'.1]; simpa using hzz
       have hfl:=flat_len hls
       simp only [List.length_replicate] at hfl
       have hle:lo * i.size + n * i.size ≤ vs.size:=by
        rw [g2,← Nat.add_mul]
        exact Nat.mul_le_mul_right _ (by omega)
       obtain ⟨w',vs',r1,r2,r3,r4,r5,r6,r7,r8,r9⟩:=setCells_spec (P:=P) (List.replicate n z.cells.toList).flatten w b (lo * i.size) vs ty 0 g1 (by rw [hfl]; omega) (fun u hu=>by obtain ⟨l,hl,hu⟩:=List.mem_flatten.1 hu; exact h1 l hl u hu)
       have hrun:(execOp ρ o).run P w = .ok (.value (.tuple #[])) w':=by
        rw [← zeroCells_flat] at r1
        unfold execOp
        simp only [h,ha',hat']
        obtain ⟨n',rfl⟩ : ∃ n',n = n' + 1:=⟨n - 1,by omega⟩
        simp [resolve,invoke,builtin,Builtin.clear_,run_underlying ht,e1,zeroValue,typeInfo,hi,hz,r1]
       exact Out.wrote hH hB _ _ hrun r5 r6 r7 r8 r9 (fun hst=>row_overE hob' g1 r2 r3 (by simpa using r4) (by simp) hls h1 (fun e he=>by rw [List.eq_of_mem_replicate he]; exact hzl) (fun k e l he hl=>replicate_reps hw' he hl) (by simp; omega)
        (fun p v hrp=>hrp.step hst (fun _ hd=>hd) (fun _ _=>.inl rfl))) .hole
    ·cases hc
end
end Go.Proofs.YtakallenldpkiaaGreatDoor.Abs
