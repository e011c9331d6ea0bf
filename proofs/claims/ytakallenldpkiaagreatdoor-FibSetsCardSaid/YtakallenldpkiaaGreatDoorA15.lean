/- Of the abstract machine and its walks: see the texts that import this. -/
import Derived.Test.YtakallenldpkiaaGreatDoorA13
import Derived.Shelf.Abstract
section
set_option linter.unusedVariables false
set_option linter.unusedSimpArgs false
set_option linter.unusedSectionVars false
namespace Go.Proofs.YtakallenldpkiaaGreatDoor.Abs
open Go
variable [DqC]
def posAt:List Nat → Nat → Nat → Option Nat
 | [],_,_=>none
 | x :: r,id,k=>if x = id then some k else posAt r id (k + 1)
theorem posAt_get : ∀ {l:List Nat} {id k i:Nat},posAt l id k = some i → ∃ j,i = k + j ∧ l[j]? = some id
 | [],id,k,i,h=>by simp [posAt] at h
 | x :: r,id,k,i,h=>by
  unfold posAt at h
  split at h
  ·rename_i hx
   injection h with h
   exact ⟨0,by omega,by simp [hx]⟩
  ·obtain ⟨j,h1,h2⟩:=posAt_get h
   exact ⟨j + 1,by omega,by simpa using h2⟩
def viewP (sl:List Nat) (bs:List (AId × AObj)):PVal → Option PVal
 | .agg cs=>match go cs with | some l=>some (.agg l) | none=>none
 | .tup cs=>match go cs with | some l=>some (.tup l) | none=>none
 | .fn f a b=>match go a,go b with | some a',some b'=>some (.fn f a' b') | _,_=>none
 | .iface t v=>match viewP sl bs v with | some v'=>some (.iface t v') | none=>none
 | .ptr id off=>match posAt sl id 0 with
  | some i=>some (.ptr i off)
  | none=>match bs.lookup id with
    | some (.box cs)=>if PVal.closed.go cs then some (.rptr (cs.drop off)) else none
    | _=>none
 | .eptr id sz i off=>match posAt sl id 0 with
  | some j=>some (.eptr j sz i off)
  | none=>none
 | .own id sz lo n=>match posAt sl id 0 with
  | some j=>some (.own j sz lo n)
  | none=>match bs.lookup id with
    | some (.row sz' _ es)=>if sz' = sz ∧ lo + n ≤ es.length then some (.ro sz ((es.drop lo).take n)) else none
    | _=>none
 | .mapr id=>match posAt sl id 0 with
  | some j=>some (.mapr j)
  | none=>none
 | p=>some p
where
 go:List PVal → Option (List PVal)
  | []=>some []
  | p :: r=>match viewP sl bs p,go r with
   | some q,some l=>some (q :: l)
   | _,_=>none
theorem viewP_go {sl:List Nat} {bs:List (AId × AObj)} : ∀ {l l':List PVal},viewP.go sl bs l = some l' → l'.length = l.length ∧ ∀ (i:Nat) (q:PVal),l'[i]? = some q → ∃ p,l[i]? = some p ∧ viewP sl bs p = some q
 | [],l',h=>by
  simp [viewP.go] at h
  subst h
  exact ⟨rfl,fun i q h=>by simp at h⟩
 | p :: r,l',h=>by
  simp only [viewP.go] at h
  split at h
  ·rename_i q l h1 h2
   injection h with h
   subst h
   obtain ⟨g1,g2⟩:=viewP_go h2
   refine ⟨by simp [g1],fun i q' hq=>?_⟩
   cases i with
   | zero=>simp at hq; subst hq; exact ⟨p,rfl,h1⟩
   | succ i=>obtain ⟨p',a1,a2⟩:=g2 i q' (by simpa using hq); exact ⟨p',by simpa using a1,a2⟩
  ·cases h
def PVal.flat:PVal → Bool
 | .agg cs=>go cs
 | .tup cs=>go cs
 | .fn _ a b=>go a && go b
 | .iface _ v=>v.flat
 | .ro .. | .rptr ..=>false
 | _=>true
where
 go:List PVal → Bool
  | []=>true
  | p :: r=>p.flat && go r
theorem PVal.flat_go {l:List PVal} (h:PVal.flat.go l = true) : ∀ (i:Nat) (p:PVal),l[i]? = some p → p.flat = true:=by
 induction l with
 | nil=>intro i p hp; simp at hp
 | cons q r ih =>
  simp only [PVal.flat.go,Bool.and_eq_true] at h
  intro i p hp
  cases i with
  | zero=>simp at hp; subst hp; exact h.1
  | succ i=>simp at hp; exact ih h.2 i p hp
theorem Rep.flat {w:World} {ok ok':Nat → Prop} {D:AId → Prop} {m:AId → Option Blk} {c:Bool} {p:PVal} {v:Value} (h:Rep w ok D m c p v) (hp:p.flat = true):Rep w ok' D m c p v:=by
 induction h with
 | undef=>exact .undef
 | hole=>exact .hole
 | bool=>exact .bool
 | int=>exact .int
 | str=>exact .str
 | nilp=>exact .nilp
 | nils=>exact .nils
 | nilf=>exact .nilf
 | yld=>exact .yld
 | nili=>exact .nili
 | nilm=>exact .nilm
 | anyb=>exact .anyb
 | agg hl h1 _ ih=>exact .agg hl h1 (fun i p v hp' hv=>ih i p v hp' hv (PVal.flat_go (by simpa [PVal.flat] using hp) i p hp'))
 | tup hl _ ih=>exact .tup hl (fun i p v hp' hv=>ih i p v hp' hv (PVal.flat_go (by simpa [PVal.flat] using hp) i p hp'))
 | ro vs hn hcp hml hs hA hcell h _=>simp [PVal.flat] at hp
 | rptr vs hcell h _=>simp [PVal.flat] at hp
 | ptr hd h1 h=>exact .ptr hd h1 h
 | eptr hd h1 h=>exact .eptr hd h1 h
 | own hd h1 h=>exact .own hd h1 h
 | mapr hd h1 h=>exact .mapr hd h1 h
 | fn hl1 hl2 _ _ ih1 ih2 =>
  simp only [PVal.flat,Bool.and_eq_true] at hp
  exact .fn hl1 hl2 (fun i p v hp' hv=>ih1 i p v hp' hv (PVal.flat_go hp.1 i p hp')) (fun i p v hp' hv=>ih2 i p v hp' hv (PVal.flat_go hp.2 i p hp'))
 | iface _ ih=>exact .iface (ih (by simpa [PVal.flat] using hp))
def renP (τ:Nat → Nat):PVal → PVal
 | .agg cs=>.agg (go cs)
 | .tup cs=>.tup (go cs)
 | .fn f a b=>.fn f (go a) (go b)
 | .iface t v=>.iface t (renP τ v)
 | .ptr id off=>.ptr (τ id) off
 | .eptr id sz i off=>.eptr (τ id) sz i off
 | .own id sz lo n=>.own (τ id) sz lo n
 | .mapr id=>.mapr (τ id)
 | p=>p
where
 go:List PVal → List PVal
  | []=>[]
  | p :: r=>renP τ p :: go r
theorem renP_go (τ:Nat → Nat) : ∀ (l:List PVal),(renP.go τ l).length = l.length ∧ ∀ (i:Nat) (q:PVal),(renP.go τ l)[i]? = some q → ∃ p,l[i]? = some p ∧ renP τ p = q
 | []=>⟨rfl,fun i q h=>by simp [renP.go] at h⟩
 | p :: r=>by
  obtain ⟨g1,g2⟩:=renP_go τ r
  refine ⟨by simp [renP.go,g1],fun i q hq=>?_⟩
  cases i with
  | zero=>simp [renP.go] at hq; exact ⟨p,rfl,hq⟩
  | succ i=>simp [renP.go] at hq; obtain ⟨p',a1,a2⟩:=g2 i q hq; exact ⟨p',by simpa using a1,a2⟩
theorem Rep.ren {w:World} {ok:Nat → Prop} {D0 D:AId → Prop} {m0 m:AId → Option Blk} {c:Bool} {p:PVal} {v:Value} (τ:Nat → Nat) (h:Rep w ok D0 m0 c p v) (hτ : ∀ i,D0 i → D (τ i) ∧ ∀ B,m (τ i) = some B → m0 i = some B) :
  Rep w ok D m c (renP τ p) v:=by
 induction h with
 | undef=>exact .undef
 | hole=>exact .hole
 | bool=>exact .bool
 | int=>exact .int
 | str=>exact .str
 | nilp=>exact .nilp
 | nils=>exact .nils
 | nilf=>exact .nilf
 | yld=>exact .yld
 | nili=>exact .nili
 | nilm=>exact .nilm
 | anyb=>exact .anyb
 | agg hl h1 _ ih =>
  obtain ⟨g1,g2⟩:=renP_go τ _
  refine .agg (by rw [g1,hl]) h1 (fun i p v hp' hv=>?_)
  obtain ⟨p',a1,rfl⟩:=g2 i p hp'
  exact ih i p' v a1 hv
 | tup hl _ ih =>
  obtain ⟨g1,g2⟩:=renP_go τ _
  refine .tup (by rw [g1,hl]) (fun i p v hp' hv=>?_)
  obtain ⟨p',a1,rfl⟩:=g2 i p hp'
  exact ih i p' v a1 hv
 | ro vs hn hcp hml hs hA hcell h _=>exact .ro vs hn hcp hml hs hA hcell fun i j e p he hp=>(h i j e p he hp).opened
 | rptr vs hcell h _=>exact .rptr vs hcell fun j p hp=>(h j p hp).opened
 | ptr hd h1 h=>exact .ptr (hτ _ hd).1 h1 fun b t e=>h b t ((hτ _ hd).2 _ e)
 | eptr hd h1 h=>exact .eptr (hτ _ hd).1 h1 fun b t e=>h b t ((hτ _ hd).2 _ e)
 | own hd h1 h=>exact .own (hτ _ hd).1 h1 fun B e=>h B ((hτ _ hd).2 _ e)
 | mapr hd h1 h=>exact .mapr (hτ _ hd).1 h1 fun b t e=>h b t ((hτ _ hd).2 _ e)
 | fn hl1 hl2 _ _ ih1 ih2 =>
  obtain ⟨g1,g2⟩:=renP_go τ _
  obtain ⟨g3,g4⟩:=renP_go τ _
  refine .fn (by rw [g1,hl1]) (by rw [g3,hl2]) (fun i p v hp' hv=>?_) (fun i p v hp' hv=>?_)
  ·obtain ⟨p',a1,rfl⟩:=g2 i p hp'
   exact ih1 i p' v a1 hv
  ·obtain ⟨p',a1,rfl⟩:=g4 i p hp'
   exact ih2 i p' v a1 hv
 | iface _ ih=>exact .iface ih
section
variable {w:World} {ok ok0:Nat → Prop} {D D0:AId → Prop} {m m0:AId → Option Blk} {heap:Heap} {sl:List Nat} {bs:List (AId × AObj)}
theorem own_ro (hH:SimH D m ok heap w) {id sz ty lo n:Nat} {es:List (List PVal)} (ho:heap id = some (.row sz ty es)) (hl:lo + n ≤ es.length) {c:Bool} {v:Value} (hv:Rep w (okn ok m) D m c (.own id sz lo n) v)
  (hok : ∀ b,okn ok m b → okn ok0 m0 b) (hb : ∀ b t,m id = some (.at b t) → okn ok0 m0 b):Rep w (okn ok0 m0) D0 m0 c (.ro sz ((es.drop lo).take n)) v:=by
 cases hv with
 | own hd h1 h =>
  obtain ⟨B,hB,hobj⟩:=hH.obj id _ ho
  have hov:=h B hB
  have hlen:((es.drop lo).take n).length = n:=by simp; omega
  cases B with
  | nil =>
   obtain ⟨⟨A0,rfl⟩,rfl,rfl⟩:=hov
   exact .ro (ad:=⟨0,0,none⟩) (fun _ _=>undef) (by simp) (Nat.le_refl _) (Nat.zero_le _) (fun e he=>by simp at he) (fun h=>by omega) (fun i j e p he=>by simp at he) (fun i j e p he=>by simp at he)
  | «at» b tot =>
   obtain ⟨a,cap,rfl,ha1,ha2,ha3,hn,hcap,hmx⟩:=hov
   obtain ⟨vs,g1,g2,g3,g4,g5,g6,g7⟩:=hobj
   have hget : ∀ (i j:Nat) (e:List PVal) (p:PVal),((es.drop lo).take n)[i]? = some e → e[j]? = some p → ∃ u,vs[(lo + i) * sz + j]? = some u ∧ u.oneCell' = true ∧ Rep w (okn ok m) D m true p u ∧ w.cell? (a.add (i * sz + j)) = some u:=by
    intro i j e p he hp
    have hi:i < n:=by have:=(List.getElem?_eq_some_iff.1 he).1; omega
    have he':es[lo + i]? = some e:=by
     have:=get_of_take he
     rwa [List.getElem?_drop] at this
    obtain ⟨u,q1,q2,q3⟩:=g7 (lo + i) j e p he' hp
    refine ⟨u,q1,q2,q3,?_⟩
    have hoff:a.off = lo * sz:=by rcases ha3 with h | ⟨h,_⟩; exact h; omega
    obtain ⟨ab,ao,asp⟩:=a
    simp only at ha1 ha2 hoff
    subst ha1 ha2 hoff
    rw [add_flat,cell_at g1,← q1]
    congr 1
    rw [Nat.add_mul]; omega
   refine .ro (ad:=a) (fun i j=>(vs[(lo + i) * sz + j]?).getD undef) hlen hn (by omega) (fun e he=>g6 e (List.mem_of_mem_drop (List.mem_of_mem_take he))) (fun _=>rfl) (fun i j e p he hp=>?_) (fun i j e p he hp=>?_)
   ·obtain ⟨u,q1,q2,q3,q4⟩:=hget i j e p he hp
    rw [ha1,q1]
    exact ⟨hb b tot hB,q4,q2⟩
   ·obtain ⟨u,q1,q2,q3,q4⟩:=hget i j e p he hp
    rw [q1]
    exact q3.mono (fun _ _ _ h=>h) (fun b hb _=>hok b hb) (fun _=>rfl) (fun h=>by cases h) (fun h=>by cases h)
theorem ptr_rptr (hH:SimH D m ok heap w) {id off:Nat} {cs:List PVal} (ho:heap id = some (.box cs)) (hcl:PVal.closed.go cs = true) {c:Bool} {v:Value} (hv:Rep w (okn ok m) D m c (.ptr id off) v)
  (hok : ∀ b,okn ok m b → okn ok0 m0 b) (hb : ∀ b t,m id = some (.at b t) → okn ok0 m0 b):Rep w (okn ok0 m0) D0 m0 c (.rptr (cs.drop off)) v:=by
 cases hv with
 | ptr hd h1 h =>
  obtain ⟨b,t,hB,hobj⟩:=obj_at hH ho
  have:=h b t hB
  subst this
  obtain ⟨vs,ty,g1,g2,g3⟩:=hobj
  have hget : ∀ (j:Nat) (p:PVal),(cs.drop off)[j]? = some p → ∃ u,vs[off + j]? = some u ∧ u.oneCell' = true ∧ Rep w (okn ok m) D m true p u:=by
   intro j p hp
   rw [List.getElem?_drop] at hp
   obtain ⟨u,q1,q2,q3⟩:=g3 _ p hp
   exact ⟨u,q1,q2,q3.close (PVal.closed_go hcl _ p hp)⟩
  refine .rptr (fun j=>(vs[off + j]?).getD undef) (fun j p hp=>?_) (fun j p hp=>?_)
  ·obtain ⟨u,q1,q2,q3⟩:=hget j p hp
   rw [q1]
   refine ⟨hb b t hB,?_,q2⟩
   rw [add_flat,cell_at g1,q1]
   rfl
  ·obtain ⟨u,q1,q2,q3⟩:=hget j p hp
   rw [q1]
   exact q3.mono (fun _ _ _ h=>h) (fun b hb _=>hok b hb) (fun _=>rfl) (fun h=>by cases h) (fun h=>by cases h)
theorem viewP_rep (hH:SimH D m ok heap w) (hσ : ∀ id i,posAt sl id 0 = some i → D0 i ∧ ∀ B,m0 i = some B → m id = some B) (hok : ∀ b,okn ok m b → okn ok0 m0 b) (hbh : ∀ id o,bs.lookup id = some o → heap id = some o) (hb : ∀ id o,bs.lookup id = some o → ∀ b t,m id = some (.at b t) → okn ok0 m0 b)
  {c:Bool} {p:PVal} {v:Value} (h:Rep w (okn ok m) D m c p v) {q:PVal} (hq:viewP sl bs p = some q):Rep w (okn ok0 m0) D0 m0 c q v:=by
 have hmono : ∀ {c:Bool} {p:PVal} {v:Value},Rep w (okn ok m) D m true p v → Rep w (okn ok0 m0) D0 m0 c p v:=fun h=>Rep.opened (D:=D) (m:=m) (h.mono (fun _ _ _ h=>h) (fun b hb _=>hok b hb) (fun _=>rfl) (fun h=>by cases h) (fun h=>by cases h))
 generalize hm:okn ok m = okm at h
 induction h generalizing q with
 | undef=>simp only [viewP,Option.some.injEq] at hq; subst hq; exact .undef
 | hole=>simp only [viewP,Option.some.injEq] at hq; subst hq; exact .hole
 | bool=>simp only [viewP,Option.some.injEq] at hq; subst hq; exact .bool
 | int=>simp only [viewP,Option.some.injEq] at hq; subst hq; exact .int
 | str=>simp only [viewP,Option.some.injEq] at hq; subst hq; exact .str
 | nilp=>simp only [viewP,Option.some.injEq] at hq; subst hq; exact .nilp
 | nils=>simp only [viewP,Option.some.injEq] at hq; subst hq; exact .nils
 | nilf=>simp only [viewP,Option.some.injEq] at hq; subst hq; exact .nilf
 | yld=>simp only [viewP,Option.some.injEq] at hq; subst hq; exact .yld
 | nili=>simp only [viewP,Option.some.injEq] at hq; subst hq; exact .nili
 | nilm=>simp only [viewP,Option.some.injEq] at hq; subst hq; exact .nilm
 | anyb=>simp only [viewP,Option.some.injEq] at hq; subst hq; exact .anyb
 | agg hl h1 _ ih =>
  simp only [viewP] at hq
  split at hq
  ·rename_i l hl'
   injection hq with hq
   subst hq
   obtain ⟨g1,g2⟩:=viewP_go hl'
   refine .agg (by rw [g1,hl]) h1 (fun i p v hp' hv=>?_)
   obtain ⟨p',a1,a2⟩:=g2 i p hp'
   exact ih i p' v a1 hv a2
  ·cases hq
 | tup hl _ ih =>
  simp only [viewP] at hq
  split at hq
  ·rename_i l hl'
   injection hq with hq
   subst hq
   obtain ⟨g1,g2⟩:=viewP_go hl'
   refine .tup (by rw [g1,hl]) (fun i p v hp' hv=>?_)
   obtain ⟨p',a1,a2⟩:=g2 i p hp'
   exact ih i p' v a1 hv a2
  ·cases hq
 | ro vs hn hcp hml hs hA hcell h _ =>
  simp only [viewP,Option.some.injEq] at hq
  subst hq
  subst hm
  exact hmono (.ro vs hn hcp hml hs hA hcell h)
 | rptr vs hcell h _ =>
  simp only [viewP,Option.some.injEq] at hq
  subst hq
  subst hm
  exact hmono (.rptr vs hcell h)
 | ptr hd h1 h =>
  simp only [viewP] at hq
  split at hq
  ·rename_i i hi
   injection hq with hq
   subst hq
   exact .ptr (hσ _ _ hi).1 h1 fun b t e=>h b t ((hσ _ _ hi).2 _ e)
  ·split at hq
   ·rename_i cs ho
    split at hq
    ·rename_i hcl
     injection hq with hq
     subst hq
     subst hm
     exact ptr_rptr hH (hbh _ _ ho) hcl (.ptr hd h1 h) hok (hb _ _ ho)
    ·cases hq
   ·cases hq
 | eptr hd h1 h =>
  simp only [viewP] at hq
  split at hq
  ·rename_i i hi
   injection hq with hq
   subst hq
   exact .eptr (hσ _ _ hi).1 h1 fun b t e=>h b t ((hσ _ _ hi).2 _ e)
  ·cases hq
 | own hd h1 h =>
  simp only [viewP] at hq
  split at hq
  ·rename_i i hi
   injection hq with hq
   subst hq
   exact .own (hσ _ _ hi).1 h1 fun B e=>h B ((hσ _ _ hi).2 _ e)
  ·split at hq
   ·rename_i sz' ty es ho
    split at hq
    ·rename_i hcond
     injection hq with hq
     subst hq
     subst hm
     obtain ⟨rfl,hle⟩:=hcond
     exact own_ro hH (hbh _ _ ho) hle (.own hd h1 h) hok (hb _ _ ho)
    ·cases hq
   ·cases hq
 | mapr hd h1 h =>
  simp only [viewP] at hq
  split at hq
  ·rename_i i hi
   injection hq with hq
   subst hq
   exact .mapr (hσ _ _ hi).1 h1 fun b t e=>h b t ((hσ _ _ hi).2 _ e)
  ·cases hq
 | fn hl1 hl2 _ _ ih1 ih2 =>
  simp only [viewP] at hq
  split at hq
  ·rename_i a' b' ha hb'
   injection hq with hq
   subst hq
   obtain ⟨g1,g2⟩:=viewP_go ha
   obtain ⟨g3,g4⟩:=viewP_go hb'
   refine .fn (by rw [g1,hl1]) (by rw [g3,hl2]) (fun i p v hp' hv=>?_) (fun i p v hp' hv=>?_)
   ·obtain ⟨p',a1,a2⟩:=g2 i p hp'
    exact ih1 i p' v a1 hv a2
   ·obtain ⟨p',a1,a2⟩:=g4 i p hp'
    exact ih2 i p' v a1 hv a2
  ·cases hq
 | iface _ ih =>
  simp only [viewP] at hq
  split at hq
  ·rename_i v' hv'
   injection hq with hq
   subst hq
   exact .iface (ih hv')
  ·cases hq
theorem viewPs_rep (hH:SimH D m ok heap w) (hσ : ∀ id i,posAt sl id 0 = some i → D0 i ∧ ∀ B,m0 i = some B → m id = some B) (hok : ∀ b,okn ok m b → okn ok0 m0 b) (hbh : ∀ id o,bs.lookup id = some o → heap id = some o) (hb : ∀ id o,bs.lookup id = some o → ∀ b t,m id = some (.at b t) → okn ok0 m0 b)
  {c:Bool} {ps qs:List PVal} {vs:List Value} (h:Reps w (okn ok m) D m c ps vs) (hq:viewP.go sl bs ps = some qs):Reps w (okn ok0 m0) D0 m0 c qs vs:=by
 obtain ⟨g1,g2⟩:=viewP_go hq
 refine ⟨by rw [g1,h.1],fun i q v hq hv=>?_⟩
 obtain ⟨p,a1,a2⟩:=g2 i q hq
 exact viewP_rep hH hσ hok hbh hb (h.2 i p v a1 hv) a2
def viewO (sl:List Nat) (bs:List (AId × AObj)):AObj → Option AObj
 | .box cs=>match viewP.go sl bs cs with | some l=>some (.box l) | none=>none
 | o=>some o
theorem viewO_rep (hH:SimH D m ok heap w) (hσ : ∀ id i,posAt sl id 0 = some i → D0 i ∧ ∀ B,m0 i = some B → m id = some B) (hok : ∀ b,okn ok m b → okn ok0 m0 b) (hbh : ∀ id o,bs.lookup id = some o → heap id = some o) (hb : ∀ id o,bs.lookup id = some o → ∀ b t,m id = some (.at b t) → okn ok0 m0 b)
  {o o':AObj} {B:Blk} (h:RepObj w ok D m o B) (hq:viewO sl bs o = some o'):RepObj w ok0 D0 m0 o' B:=by
 have hmono : ∀ {p:PVal} {v:Value},Rep w (okn ok m) D m true p v → Rep w (okn ok0 m0) D0 m0 true p v:=fun h=>Rep.opened (D:=D) (m:=m) (h.mono (fun _ _ _ h=>h) (fun b hb _=>hok b hb) (fun _=>rfl) (fun h=>by cases h) (fun h=>by cases h))
 cases o with
 | box cs =>
  simp only [viewO] at hq
  split at hq
  ·rename_i l hl
   injection hq with hq
   subst hq
   cases B with
   | nil=>exact h
   | «at» b t =>
    obtain ⟨vs,ty,h1,h2,h3⟩:=h
    obtain ⟨g1,g2⟩:=viewP_go hl
    refine ⟨vs,ty,h1,by rw [h2,g1],fun i p hp=>?_⟩
    obtain ⟨p',a1,a2⟩:=g2 i p hp
    obtain ⟨v,q1,q2,q3⟩:=h3 i p' a1
    exact ⟨v,q1,q2,viewP_rep hH hσ hok hbh hb q3 a2⟩
  ·cases hq
 | row sz ty es =>
  simp only [viewO,Option.some.injEq] at hq
  subst hq
  cases B with
  | nil=>exact h
  | «at» b t =>
   obtain ⟨vs,h1,h2,h3,h3',h4,h5,h6⟩:=h
   refine ⟨vs,h1,h2,h3,h3',h4,h5,fun i j e p he hp=>?_⟩
   obtain ⟨v,h7,h8,h9⟩:=h6 i j e p he hp
   exact ⟨v,h7,h8,hmono h9⟩
 | full sz ty es =>
  simp only [viewO,Option.some.injEq] at hq
  subst hq
  cases B with
  | nil=>exact h
  | «at» b t =>
   obtain ⟨vs,h1,h2,h3,h3',h4,h5,h6⟩:=h
   refine ⟨vs,h1,h2,h3,h3',h4,h5,fun i j e p he hp=>?_⟩
   rcases h6 i j e p he hp with h7 | ⟨v,h7,h8,h9⟩
   ·exact .inl h7
   ·exact .inr ⟨v,h7,h8,hmono h9⟩
 | mp kvs =>
  simp only [viewO,Option.some.injEq] at hq
  subst hq
  cases B with
  | nil=>exact h
  | «at» b t =>
   obtain ⟨ents,clock,h1,h2,h3⟩:=h
   refine ⟨ents,clock,h1,h2,fun i k x hkx=>?_⟩
   obtain ⟨e,h4,h5,h6⟩:=h3 i k x hkx
   exact ⟨e,h4,hmono h5,hmono h6⟩
 | mq clk es =>
  simp only [viewO,Option.some.injEq] at hq
  subst hq
  cases B with
  | nil=>exact h
  | «at» b t =>
   obtain ⟨ents,h1,h2,h3⟩:=h
   refine ⟨ents,h1,h2,fun i s k x hkx=>?_⟩
   obtain ⟨e,h4,h5,h6,h7⟩:=h3 i s k x hkx
   exact ⟨e,h4,h5,h6,hmono h7⟩
end
mutual
inductive WeakP:PVal → PVal → Prop where
 | refl {p:PVal}:WeakP p p
 | nil {sz:Nat}:WeakP .nils (.ro sz [])
 | agg {l l':List PVal} (h:WeakL l l'):WeakP (.agg l) (.agg l')
 | tup {l l':List PVal} (h:WeakL l l'):WeakP (.tup l) (.tup l')
inductive WeakL:List PVal → List PVal → Prop where
 | refl {l:List PVal}:WeakL l l
 | cons {p p':PVal} {l l':List PVal} (h:WeakP p p') (k:WeakL l l'):WeakL (p :: l) (p' :: l')
end
theorem WeakL.get : ∀ {l l':List PVal},WeakL l l' → l'.length = l.length ∧ ∀ (i:Nat) (q:PVal),l'[i]? = some q → ∃ p,l[i]? = some p ∧ WeakP p q
 | _,_,.refl=>⟨rfl,fun i q h=>⟨q,h,.refl⟩⟩
 | _,_,.cons (l:=l) (l':=l') h k=>by
  obtain ⟨h1,h2⟩:=WeakL.get k
  refine ⟨by simp [h1],fun i q hq=>?_⟩
  cases i with
  | zero=>simp at hq; subst hq; exact ⟨_,rfl,h⟩
  | succ i=>obtain ⟨p',a1,a2⟩:=h2 i q (by simpa using hq); exact ⟨p',by simpa using a1,a2⟩
theorem Rep.weak {w:World} {ok:Nat → Prop} {D:AId → Prop} {m:AId → Option Blk} {c:Bool} {p:PVal} {v:Value} (h:Rep w ok D m c p v) : ∀ {p':PVal},WeakP p p' → Rep w ok D m c p' v:=by
 induction h with
 | agg hl h1 h ih =>
  rename_i c cs vs
  intro p' hw
  cases hw with
  | refl=>exact .agg hl h1 h
  | agg hw =>
   obtain ⟨g1,g2⟩:=hw.get
   refine .agg (by omega) h1 fun i q v hq hv=>?_
   obtain ⟨p,a1,a2⟩:=g2 i q hq
   exact ih i p v a1 hv a2
 | tup hl h ih =>
  rename_i c cs vs
  intro p' hw
  cases hw with
  | refl=>exact .tup hl h
  | tup hw =>
   obtain ⟨g1,g2⟩:=hw.get
   refine .tup (by omega) fun i q v hq hv=>?_
   obtain ⟨p,a1,a2⟩:=g2 i q hq
   exact ih i p v a1 hv a2
 | nils =>
  intro p' hw
  cases hw with
  | refl=>exact .nils
  | nil=>exact .ro (ad:=⟨0,0,none⟩) (fun _ _=>default) rfl (Nat.le_refl _) (Nat.zero_le _) (fun e he=>by cases he) (fun h=>by cases h) (fun i j e p he=>by simp at he) (fun i j e p he=>by simp at he)
 | undef=>intro p' hw; cases hw; exact .undef
 | hole=>intro p' hw; cases hw; exact .hole
 | bool=>intro p' hw; cases hw; exact .bool
 | int=>intro p' hw; cases hw; exact .int
 | str=>intro p' hw; cases hw; exact .str
 | nilp=>intro p' hw; cases hw; exact .nilp
 | nilf=>intro p' hw; cases hw; exact .nilf
 | yld=>intro p' hw; cases hw; exact .yld
 | nili=>intro p' hw; cases hw; exact .nili
 | nilm=>intro p' hw; cases hw; exact .nilm
 | anyb=>intro p' hw; cases hw; exact .anyb
 | ro vs hn hc hm hs hA hcell h ih=>intro p' hw; cases hw; exact .ro vs hn hc hm hs hA hcell h
 | rptr vs hcell h ih=>intro p' hw; cases hw; exact .rptr vs hcell h
 | ptr hd h1 h=>intro p' hw; cases hw; exact .ptr hd h1 h
 | eptr hd h1 h=>intro p' hw; cases hw; exact .eptr hd h1 h
 | own hd h1 h=>intro p' hw; cases hw; exact .own hd h1 h
 | mapr hd h1 h=>intro p' hw; cases hw; exact .mapr hd h1 h
 | fn a b c d e f=>intro p' hw; cases hw; exact .fn a b c d
 | iface h ih=>intro p' hw; cases hw; exact .iface h
end Go.Proofs.YtakallenldpkiaaGreatDoor.Abs
end
section
set_option linter.unusedVariables false
set_option linter.unusedSimpArgs false
set_option linter.unusedSectionVars false
namespace Go.Proofs.YtakallenldpkiaaGreatDoor.Abs
open Go
variable [DqC]
def FnOk (P:Program) (f:FuncId) (ps:List PVal) (h0:List (AId × AObj)) (k0:Nat) (r:PVal) (h1:List (AId × AObj)) (k1:Nat):Prop :=
 Enters P f ∧ k0 ≤ k1 ∧ ∀ (m:AId → Option Blk) (ok:Nat → Prop) (w:World) (vs:List Value),SimH (· < k0) m ok (fun i=>h0.lookup i) w → Reps w (okn ok m) (· < k0) m false ps vs →
  Calls P f vs.toArray w (fun e w'=>∃ (v:Value) (m':AId → Option Blk),e = .returned v ∧ SimH (· < k1) m' ok (fun i=>h1.lookup i) w' ∧ Rep w' (okn ok m') (· < k1) m' false r v ∧ Step m w m' w' ∧ Mon (· < k0) m m')
def paramE:Nat → List PVal → List (Nat × PVal)
 | _,[]=>[]
 | k,p :: r=>(k,p) :: paramE (k + 1) r
theorem paramE_get : ∀ {k:Nat} {ps:List PVal} {t:Nat} {p:PVal},(paramE k ps).lookup t = some p → ∃ j,t = k + j ∧ ps[j]? = some p
 | k,[],t,p,h=>by simp [paramE] at h
 | k,q :: r,t,p,h=>by
  unfold paramE at h
  by_cases ht:t = k
  ·subst ht
   simp [List.lookup] at h
   exact ⟨0,rfl,by simp [h]⟩
  ·have:(t == k) = false:=by simpa using ht
   simp only [List.lookup,this] at h
   obtain ⟨j,h1,h2⟩:=paramE_get h
   exact ⟨j + 1,by omega,by simpa using h2⟩
inductive RV where
 | t (n:Nat)
 | c (n:Nat) (k:Option Nat)
def resVars (P:Program):List ResultVar → Option (List RV)
 | []=>some []
 | .tmp t :: r=>(resVars P r).map (.t t :: ·)
 | .cell a ty :: r=>match kindOf P ty,resVars P r with
  | some k,some l=>some (.c a k :: l)
  | _,_=>none
def retV:List PVal → PVal
 | [q]=>q
 | qs=>.tup qs
def evalTs (env:List (Nat × PVal)):List Nat → Option (List PVal)
 | []=>some []
 | t :: r=>match env.lookup t,evalTs env r with
  | some p,some ps=>some (p :: ps)
  | _,_=>none
def evalRV (env:List (Nat × PVal)) (heap:List (AId × AObj)):RV → Option PVal
 | .t n=>env.lookup n
 | .c n k=>match env.lookup n with
  | some (.ptr id off)=>match heap.lookup id with
   | some (.box cs)=>peek k cs off
   | _=>none
  | _=>none
def evalRs (env:List (Nat × PVal)) (heap:List (AId × AObj)):List RV → Option (List PVal)
 | []=>some []
 | x :: r=>match evalRV env heap x,evalRs env heap r with
  | some p,some ps=>some (p :: ps)
  | _,_=>none
def RetQ (k0:Nat) (ts:List RV) (r:PVal) (h1:List (AId × AObj)) (k1:Nat):Exit → St → Prop:=fun e st =>
 (e = .normal ∨ e = .ret) ∧ ∃ (qs0:List PVal) (st':St) (qs:List PVal),evalRs st.env st.heap ts = some qs0 ∧ Conv k0 ⟨paramE 0 qs0,st.heap,st.next⟩ st' ∧ evalTs st'.env (List.range qs0.length) = some qs ∧ WeakP (retV qs) r ∧ st'.heap = h1 ∧ st'.next = k1
theorem evalTs_rep {n:Nat} {ds:List Deferred} {D:AId → Prop} {m:AId → Option Blk} {ok:Nat → Prop} {st:St} {heap:Heap} {a:Act} {w:World} (hS:Sim n ds D m ok st.e heap a w) : ∀ {ts:List Nat} {qs:List PVal},evalTs st.env ts = some qs → Reps w (okn ok m) D m false qs (ts.map fun t=>a.tmps.getD t undef)
 | [],qs,h=>by simp [evalTs] at h; subst h; exact Reps.nil ..
 | t :: r,qs,h=>by
  simp only [evalTs] at h
  split at h
  ·rename_i p ps h1 h2
   injection h with h
   subst h
   obtain ⟨v,hv,hr⟩:=hS.tmp t p h1
   refine Reps.cons ?_ (evalTs_rep hS h2)
   simp only [Array.getD_eq_getD_getElem?,hv,Option.getD_some]
   exact hr
  ·cases h
def runRV (tmps:Array Value):ResultVar → Sem Value
 | .tmp t=>pure (tmps.getD t undef)
 | .cell a t=>do loadVar t (← asAddr (tmps.getD a undef))
theorem runRV_rep {P:Program} {n:Nat} {ds:List Deferred} {D:AId → Prop} {m:AId → Option Blk} {ok:Nat → Prop} {st:St} {a:Act} {w:World} (hS:Sim n ds D m ok st.e st.h a w) :
  ∀ {l:List ResultVar} {rs:List RV} {qs:List PVal},resVars P l = some rs → evalRs st.env st.heap rs = some qs → ∃ vs:List Value,(l.mapM (runRV a.tmps)).run P w = .ok vs w ∧ Reps w (okn ok m) D m false qs vs
 | [],rs,qs,h,hq=>by
  simp [resVars] at h
  subst h
  simp [evalRs] at hq
  subst hq
  exact ⟨[],by simp,Reps.nil ..⟩
 | .tmp t :: r,rs,qs,h,hq=>by
  simp only [resVars] at h
  obtain ⟨rs',h1,rfl⟩:=Option.map_eq_some_iff.1 h
  simp only [evalRs] at hq
  split at hq
  ·rename_i p ps g1 g2
   injection hq with hq
   subst hq
   obtain ⟨vs,e1,e2⟩:=runRV_rep hS h1 g2
   obtain ⟨v,hv,hr⟩:=hS.tmp t p g1
   refine ⟨v :: vs,?_,Reps.cons hr e2⟩
   have hg:a.tmps.getD t undef = v:=by simp only [Array.getD_eq_getD_getElem?,hv,Option.getD_some]
   simp only [List.mapM_cons,Sem.run_bind,runRV,Sem.run_pure,Result.andThen_ok,hg,e1]
  ·cases hq
 | .cell b ty :: r,rs,qs,h,hq=>by
  simp only [resVars] at h
  split at h
  ·rename_i k rs' h0 h1
   injection h with h
   subst h
   simp only [evalRs] at hq
   split at hq
   ·rename_i p ps g1 g2
    injection hq with hq
    subst hq
    obtain ⟨vs,e1,e2⟩:=runRV_rep hS h1 g2
    obtain ⟨d,i,hd,hi,rfl⟩:=kindOf_some h0
    simp only [evalRV] at g1
    split at g1
    ·rename_i id off hp
     split at g1
     ·rename_i cs ho
      obtain ⟨B,hB,hob⟩:=hS.hp.obj id _ ho
      cases B with
      | nil=>exact hob.elim
      | «at» bb tt =>
       obtain ⟨ws,ty',k1,k2,k3⟩:=box_reps hob
       obtain ⟨v0,hv0,hr0⟩:=hS.tmp b _ hp
       cases hr0 with
       | ptr _ _ hpt =>
        have hv0':=hpt bb tt hB
        subst hv0'
        obtain ⟨k4,k5⟩:=peek_rep k2 k3 g1
        have hrun:=run_loadVar (P:=P) (w:=w) hd hi ⟨bb,off,none⟩ _ k4 (cells_of_block k1 _ _)
        refine ⟨_ :: vs,?_,Reps.cons k5 e2⟩
        have hg:a.tmps.getD b undef = .pointer (some ⟨bb,off,none⟩):=by simp only [Array.getD_eq_getD_getElem?,hv0,Option.getD_some]
        simp only [List.mapM_cons,Sem.run_bind,runRV,hg,asAddr,Sem.run_pure,Result.andThen_ok,hrun,e1]
     ·cases g1
    ·cases g1
   ·cases hq
  ·cases h
theorem run_results {P:Program} {n:Nat} {ds:List Deferred} {D:AId → Prop} {m:AId → Option Blk} {ok:Nat → Prop} {st:St} {a:Act} {w:World} (hS:Sim n ds D m ok st.e st.h a w) {fn:Func} {rs:List RV} {qs:List PVal} (h:resVars P fn.results.toList = some rs) (hq:evalRs st.env st.heap rs = some qs) :
  ∃ vs:List Value,Reps w (okn ok m) D m false qs vs ∧ (results fn a.tmps).run P w = .ok (if h:vs.toArray.size = 1 then vs.toArray[0] else .tuple vs.toArray) w:=by
 obtain ⟨vs,h1,h2⟩:=runRV_rep (P:=P) hS h hq
 refine ⟨vs,h2,?_⟩
 have hm:(fn.results.mapM (runRV a.tmps)).run P w = .ok vs.toArray w:=by
  rw [Array.mapM_eq_mapM_toList]
  simp only [Sem.run_map]
  rw [h1]
  rfl
 have he:results fn a.tmps = (do
   let vs ← fn.results.mapM (runRV a.tmps)
   pure (if h:vs.size = 1 then vs[0] else .tuple vs)):=by
  unfold results
  congr 1
 rw [he]
 simp only [Sem.run_bind,hm,Result.andThen_ok,Sem.run_pure]
theorem paramE_lookup : ∀ {ps:List PVal} {k j:Nat} {p:PVal},ps[j]? = some p → (paramE k ps).lookup (k + j) = some p
 | [],k,j,p,h=>by simp at h
 | q :: r,k,0,p,h=>by
  simp at h
  subst h
  simp [paramE,List.lookup]
 | q :: r,k,j + 1,p,h=>by
  have:(k + (j + 1) == k) = false:=by simp
  simp only [paramE,List.lookup,this]
  have:=paramE_lookup (k:=k + 1) (j:=j) (by simpa using h)
  rw [show k + (j + 1) = k + 1 + j by omega]
  exact this
theorem evalTs_range {ps:List PVal} : ∀ (j:Nat) {r:List PVal},ps.drop j = r → evalTs (paramE 0 ps) (List.range' j r.length) = some r
 | j,[],h=>rfl
 | j,x :: r,h=>by
  have hx:ps[j]? = some x:=by
   have:=List.getElem?_drop (xs:=ps) (i:=j) (j:=0)
   rw [h] at this
   simpa using this.symm
  have hr:ps.drop (j + 1) = r:=by
   have:=congrArg (List.drop 1) h
   simpa [List.drop_drop,Nat.add_comm] using this
  have h1:=paramE_lookup (k:=0) hx
  rw [Nat.zero_add] at h1
  simp only [List.length_cons,List.range',evalTs,h1,evalTs_range (j + 1) hr]
theorem evalTs_paramE (ps:List PVal):evalTs (paramE 0 ps) (List.range ps.length) = some ps:=by
 have:=evalTs_range (ps:=ps) 0 (r:=ps) rfl
 rwa [← List.range_eq_range'] at this
theorem FnOk.of_wp {P:Program} {f:FuncId} {fn:Func} {c:Code} {ac:AC} {ts:List RV} {ps:List PVal} {h0:List (AId × AObj)} {k0:Nat} {r:PVal} {h1:List (AId × AObj)} {k1:Nat}
  (hf:P.funcs[f]? = some fn) (hname:(fn.name == "runtime.NumGoroutine") = false) (hb:fn.body = some c) (hac:transC P c = some ac) (hts:resVars P fn.results.toList = some ts) (hn:ps.length ≤ fn.ntmps) (hk:k0 ≤ k1)
  (hW:W P fn.ntmps k0 ac (RetQ k0 ts r h1 k1) { env:=paramE 0 ps,heap:=h0,next:=k0 }):FnOk P f ps h0 k0 r h1 k1:=by
 refine ⟨enters_of hf hname hb,hk,fun m ok w vs hH hr=>(callsIn_wide (n:=0)).1 <| callsIn_of_wp (F:=Fence.wide) hf hb trivial (wpIn_mono (hW c hac none [] m ok _ w (Nat.le_refl _) ⟨hH,fun t p hp=>?_,rfl,?_⟩) ?_)⟩
 ·obtain ⟨j,rfl,hj⟩:=paramE_get hp
  have hlt:j < vs.length:=by rw [← hr.1]; exact (List.getElem?_eq_some_iff.1 hj).1
  refine ⟨vs[j],?_,hr.2 j p _ hj (List.getElem?_eq_getElem hlt)⟩
  rw [Nat.zero_add,Array.getElem?_append_left (by simpa using hlt)]
  simp [hlt]
 ·have:=hr.1
  simp; omega
 ·rintro e a' w' ⟨st',m',hp⟩
  obtain ⟨he,qs0,st2,qs,hq0,hcv,hq,hre,hh,hnx⟩:=hp.q
  obtain ⟨vs0,hr0,hrun⟩:=run_results (P:=P) hp.sim hts hq0
  have hS1:Sim vs0.length [] (· < st'.next) m' ok (St.e ⟨paramE 0 qs0,st'.heap,st'.next⟩) (St.h ⟨paramE 0 qs0,st'.heap,st'.next⟩) { a' with tmps:=vs0.toArray } w':=by
   refine ⟨hp.sim.hp,fun t p hp'=>?_,hp.sim.df,by simp⟩
   obtain ⟨j,rfl,hj⟩:=paramE_get hp'
   have hlt:j < vs0.length:=by rw [← hr0.1]; exact (List.getElem?_eq_some_iff.1 hj).1
   refine ⟨vs0[j],?_,hr0.2 j p _ hj (List.getElem?_eq_getElem hlt)⟩
   rw [Nat.zero_add]
   simp [hlt]
  obtain ⟨m2,hS2,hst2,hM2,_⟩:=hcv _ [] m' ok _ w' hp.le hS1
  have hreps:=evalTs_rep hS2 hq
  have hlen0:=hr0.1
  have hvs:(List.range qs0.length).map (fun t=>vs0.toArray.getD t undef) = vs0:=by
   apply List.ext_getElem?
   intro i
   rw [List.getElem?_map]
   by_cases hi:i < qs0.length
   ·rw [List.getElem?_range hi]
    have:i < vs0.length:=by omega
    simp [this]
   ·rw [List.getElem?_eq_none (by simpa using hi),List.getElem?_eq_none (by omega)]
    rfl
  rw [hvs] at hreps
  have key:a'.defers = [] ∧ ∃ v,(results fn a'.tmps).run P w' = .ok v w' ∧ ∃ (v':Value) (m':AId → Option Blk),Ending.returned v = .returned v' ∧ SimH (· < k1) m' ok (fun i=>h1.lookup i) w' ∧ Rep w' (okn ok m') (· < k1) m' false r v' ∧ Step m w m' w' ∧ Mon (· < k0) m m':=by
   refine ⟨hp.sim.df,_,hrun,_,m2,rfl,?_,?_,hp.step.trans hst2,hp.mon.trans hM2 fun _ h=>h⟩
   ·rw [← hnx,← hh]; exact hS2.hp
   ·rw [hnx] at hreps
    have hlen:=hreps.1
    refine Rep.weak ?_ hre
    cases vs0 with
    | nil =>
     obtain rfl:=List.eq_nil_of_length_eq_zero hlen
     exact Rep.tup (cs:=[]) (vs:=[]) rfl (fun i p v h=>by simp at h)
    | cons v vs' =>
     cases qs with
     | nil=>simp at hlen
     | cons q qs' =>
      cases vs' with
      | nil =>
       obtain rfl:qs' = []:=List.eq_nil_of_length_eq_zero (by simpa using hlen)
       have:=hreps.head
       simpa [retV] using this
      | cons v' vs'' =>
       cases qs' with
       | nil=>simp at hlen
       | cons q' qs'' =>
        rw [dif_neg (by simp)]
        exact Rep.tup hreps.1 hreps.2
  rcases he with rfl | rfl
  ·exact key
  ·exact key
theorem Reps.weak {w:World} {ok:Nat → Prop} {D:AId → Prop} {m:AId → Option Blk} {c:Bool} {ps ps':List PVal} {vs:List Value} (h:Reps w ok D m c ps vs) (hw:WeakL ps ps'):Reps w ok D m c ps' vs:=by
 obtain ⟨g1,g2⟩:=hw.get
 refine ⟨g1.trans h.1,fun i q v hq hv=>?_⟩
 obtain ⟨p,a1,a2⟩:=g2 i q hq
 exact (h.2 i p v a1 hv).weak a2
theorem FnOk.weak {P:Program} {f:FuncId} {ps ps':List PVal} {h0:List (AId × AObj)} {k0:Nat} {r:PVal} {h1:List (AId × AObj)} {k1:Nat} (h:FnOk P f ps' h0 k0 r h1 k1) (hw:WeakL ps ps'):FnOk P f ps h0 k0 r h1 k1 :=
 ⟨h.1,h.2.1,fun m ok w vs hH hr=>h.2.2 m ok w vs hH (hr.weak hw)⟩
def renO (τ:Nat → Nat):AObj → AObj
 | .box cs=>.box (renP.go τ cs)
 | o=>o
def FlatO:AObj → Prop
 | .box cs=>PVal.flat.go cs = true
 | .row _ _ es=>∀ e ∈ es,PVal.flat.go e = true
 | .full _ _ es=>∀ e ∈ es,PVal.flat.go e = true
 | .mp kvs=>∀ x ∈ kvs,x.1.flat = true ∧ x.2.flat = true
 | .mq _ es=>∀ x ∈ es,x.2.2.flat = true
def tau (sl:List Nat) (nx i:Nat):Nat:=if i < sl.length then sl.getD i 0 else nx + (i - sl.length)
def callWh (sl:List Nat) (nx:Nat) (h1:List (AId × AObj)) (k1:Nat):List (AId × Option AObj) :=
 (List.range k1).map fun i=>(tau sl nx i,(h1.lookup i).map (renO (tau sl nx)))
theorem lookup_map_none {α β:Type} (τ:α → Nat) (g:α → β) (id:Nat) : ∀ (l:List α),(∀ i ∈ l,τ i ≠ id) → (l.map fun i=>(τ i,g i)).lookup id = none
 | [],_=>rfl
 | x :: r,h=>by
  have hx:(id == τ x) = false:=by simpa using fun e=>h x List.mem_cons_self e.symm
  simp only [List.map_cons,List.lookup,hx]
  exact lookup_map_none τ g id r fun i hi=>h i (List.mem_cons_of_mem _ hi)
theorem lookup_map_some {α β:Type} (τ:α → Nat) (g:α → β) (id:Nat) (i:α) (hτ:τ i = id) : ∀ (l:List α),i ∈ l → (∀ j ∈ l,τ j = id → j = i) → (l.map fun i=>(τ i,g i)).lookup id = some (g i)
 | [],h,_=>by cases h
 | x :: r,h,hu=>by
  by_cases hx:τ x = id
  ·have:=hu x List.mem_cons_self hx
   subst this
   simp [List.lookup,hx]
  ·have hx':(id == τ x) = false:=by simpa using fun e=>hx e.symm
   simp only [List.map_cons,List.lookup,hx']
   refine lookup_map_some τ g id i hτ r ?_ fun j hj=>hu j (List.mem_cons_of_mem _ hj)
   rcases List.mem_cons.1 h with h | h
   ·subst h; exact absurd hτ hx
   ·exact h
theorem posAt_none : ∀ {l:List Nat} {id k:Nat},posAt l id k = none → id ∉ l
 | [],id,k,h=>by simp
 | x :: r,id,k,h=>by
  unfold posAt at h
  split at h
  ·cases h
  ·rename_i hx
   have:=posAt_none h
   simp only [List.mem_cons,not_or]
   exact ⟨fun e=>hx e.symm,this⟩
def back (sl:List Nat) (nx k1 id:Nat):Option Nat:=match posAt sl id 0 with
 | some i=>some i
 | none=>if nx ≤ id ∧ id < nx + (k1 - sl.length) then some (sl.length + (id - nx)) else none
theorem back_tau {sl:List Nat} {nx k1 i:Nat} (hnd:sl.Nodup) (hnew : ∀ id ∈ sl,id < nx) (hi:i < k1):back sl nx k1 (tau sl nx i) = some i:=by
 unfold tau back
 by_cases h:i < sl.length
 ·simp only [h,if_true]
  have hg:sl[i]? = some (sl.getD i 0):=by rw [List.getD_eq_getElem?_getD,List.getElem?_eq_getElem h]; rfl
  cases hp:posAt sl (sl.getD i 0) 0 with
  | none =>
   exact absurd (List.mem_of_getElem? hg) (posAt_none hp)
  | some j =>
   obtain ⟨j',e1,e2⟩:=posAt_get hp
   have:j' = i:=(List.getElem?_inj (List.getElem?_eq_some_iff.1 e2).1 hnd).1 (e2.trans hg.symm)
   simp only [Option.some.injEq]
   omega
 ·simp only [h,if_false]
  cases hp:posAt sl (nx + (i - sl.length)) 0 with
  | none =>
   simp only
   rw [if_pos (by omega)]
   congr 1
   omega
  | some j =>
   obtain ⟨j',e1,e2⟩:=posAt_get hp
   have:=hnew _ (List.mem_of_getElem? e2)
   omega
theorem back_some {sl:List Nat} {nx k1 id i:Nat} (hk:sl.length ≤ k1) (h:back sl nx k1 id = some i):i < k1 ∧ tau sl nx i = id ∧ ((i < sl.length ∧ sl[i]? = some id) ∨ (sl.length ≤ i ∧ nx ≤ id ∧ id < nx + (k1 - sl.length))):=by
 unfold back at h
 split at h
 ·rename_i j hp
  injection h with h
  subst h
  obtain ⟨j',e1,e2⟩:=posAt_get hp
  have hj:j' = j:=by omega
  subst hj
  have hlt:=(List.getElem?_eq_some_iff.1 e2).1
  refine ⟨by omega,?_,.inl ⟨hlt,e2⟩⟩
  unfold tau
  rw [if_pos hlt,List.getD_eq_getElem?_getD,e2]
  rfl
 ·split at h
  ·rename_i hc
   injection h with h
   subst h
   refine ⟨by omega,?_,.inr ⟨by omega,hc⟩⟩
   unfold tau
   rw [if_neg (by omega)]
   omega
  ·cases h
theorem happ_callWh {sl:List Nat} {nx k1:Nat} {h1:List (AId × AObj)} (hnd:sl.Nodup) (hnew : ∀ id ∈ sl,id < nx) (hk:sl.length ≤ k1) (heap:Heap) (id:Nat) :
  happ (callWh sl nx h1 k1) heap id = match back sl nx k1 id with | some i=>(h1.lookup i).map (renO (tau sl nx)) | none=>heap id:=by
 unfold happ callWh
 cases hb:back sl nx k1 id with
 | some i =>
  obtain ⟨a1,a2,a3⟩:=back_some hk hb
  rw [lookup_map_some (tau sl nx) (fun i=>(h1.lookup i).map (renO (tau sl nx))) id i a2 _ (List.mem_range.2 a1) (fun j hj e=>by
   have:=back_tau hnd hnew (List.mem_range.1 hj)
   rw [e,hb] at this
   injection this with this
   exact this.symm)]
 | none =>
  rw [lookup_map_none (tau sl nx) (fun i=>(h1.lookup i).map (renO (tau sl nx))) id _ (fun j hj e=>by
   have:=back_tau hnd hnew (List.mem_range.1 hj)
   rw [e,hb] at this
   cases this)]
section
variable {P:Program} {D:AId → Prop} {m:AId → Option Blk} {ok:Nat → Prop} {heap:Heap} {w:World} {sl:List Nat} {bs:List (AId × AObj)}
def okv (ok:Nat → Prop) (m:AId → Option Blk) (sl:List Nat) (bs:List (AId × AObj)) (b:Nat):Prop:=ok b ∧ ∀ (id:AId) (t:Nat),m id = some (.at b t) → id ∈ sl ∨ ∃ o,bs.lookup id = some o
def mv (m:AId → Option Blk) (sl:List Nat) (i:AId):Option Blk:=(sl[i]?).bind m
theorem mv_some {i:AId} {B:Blk} (h:mv m sl i = some B) : ∃ id,sl[i]? = some id ∧ m id = some B:=by
 unfold mv at h
 exact Option.bind_eq_some_iff.1 h
theorem mv_ids : ∀ id i,posAt sl id 0 = some i → (i < sl.length) ∧ ∀ B,mv m sl i = some B → m id = some B:=by
 intro id i h
 obtain ⟨j,e1,e2⟩:=posAt_get h
 have hj:j = i:=by omega
 subst hj
 refine ⟨(List.getElem?_eq_some_iff.1 e2).1,fun B hB=>?_⟩
 obtain ⟨id',g1,g2⟩:=mv_some hB
 rw [e2] at g1
 injection g1 with g1
 rw [g1]; exact g2
theorem okv_okn {b:Nat} (h:okn ok m b):okn (okv ok m sl bs) (mv m sl) b:=by
 refine ⟨⟨h.1,fun id t e=>absurd e (h.2 id t)⟩,fun i t e=>?_⟩
 obtain ⟨id,_,g2⟩:=mv_some e
 exact h.2 id t g2
theorem okv_bs (hH:SimH D m ok heap w) (hdis : ∀ id ∈ sl,bs.lookup id = none) : ∀ id o,bs.lookup id = some o → ∀ b t,m id = some (.at b t) → okn (okv ok m sl bs) (mv m sl) b:=by
 intro id o hbo b t hm
 refine ⟨⟨hH.okm id b t hm,fun id' t' e=>?_⟩,fun i t' e=>?_⟩
 ·rw [hH.inj id' id b t' t e hm]
  exact .inr ⟨o,hbo⟩
 ·obtain ⟨id',g1,g2⟩:=mv_some e
  have:=hH.inj id' id b t' t g2 hm
  subst this
  rw [hdis _ (List.mem_of_getElem? g1)] at hbo
  cases hbo
theorem SimH.view (hH:SimH D m ok heap w) (hnd:sl.Nodup) (hbh : ∀ id o,bs.lookup id = some o → heap id = some o) (hdis : ∀ id ∈ sl,bs.lookup id = none) {h0:List (AId × AObj)}
  (hh : ∀ i o,h0.lookup i = some o → ∃ id o',sl[i]? = some id ∧ heap id = some o' ∧ viewO sl bs o' = some o):SimH (· < sl.length) (mv m sl) (okv ok m sl bs) (fun i=>h0.lookup i) w:=by
 refine ⟨fun i o ho=>?_,fun i B hB=>?_,fun i i' b t t' h h'=>?_,fun i b t h=>?_,fun i b t h=>?_,fun b hb=>⟨hH.fresh b hb,fun id t e=>absurd (hH.lt id b t e) (by omega)⟩,fun x hx=>⟨fun i t h=>?_,(hH.glob x hx).2⟩⟩
 ·obtain ⟨id,o',g1,g2,g3⟩:=hh i o ho
  obtain ⟨B,hB,hobj⟩:=hH.obj id o' g2
  refine ⟨B,by simp [mv,g1,hB],viewO_rep hH mv_ids (fun b=>okv_okn) hbh (okv_bs hH hdis) hobj g3⟩
 ·obtain ⟨id,g1,_⟩:=mv_some hB
  exact (List.getElem?_eq_some_iff.1 g1).1
 ·obtain ⟨id,g1,g2⟩:=mv_some h
  obtain ⟨id',g1',g2'⟩:=mv_some h'
  have:=hH.inj id id' b t t' g2 g2'
  subst this
  exact (List.getElem?_inj (List.getElem?_eq_some_iff.1 g1).1 hnd).1 (g1.trans g1'.symm)
 ·obtain ⟨id,g1,g2⟩:=mv_some h
  exact hH.lt id b t g2
 ·obtain ⟨id,g1,g2⟩:=mv_some h
  refine ⟨hH.okm id b t g2,fun id' t' e=>?_⟩
  rw [hH.inj id' id b t' t e g2]
  exact .inl (List.mem_of_getElem? g1)
 ·obtain ⟨id,g1,g2⟩:=mv_some h
  exact (hH.glob x hx).1 id t g2
theorem FnOk.frame {f:FuncId} {qs ps:List PVal} {h0 h1:List (AId × AObj)} {r:PVal} {k1 nx:Nat} {vs:List Value} (hF:FnOk P f qs h0 sl.length r h1 k1) (hH:SimH D m ok heap w) (hr:Reps w (okn ok m) D m false ps vs) (hv:viewP.go sl bs ps = some qs)
  (hh : ∀ i o,h0.lookup i = some o → ∃ id o',sl[i]? = some id ∧ heap id = some o' ∧ viewO sl bs o' = some o) (hbh : ∀ id o,bs.lookup id = some o → heap id = some o) (hnd:sl.Nodup) (hdis : ∀ id ∈ sl,bs.lookup id = none) (hsl : ∀ id ∈ sl,D id) (hnew : ∀ id ∈ sl,id < nx)
  (hfl:bs = [] ∨ (r.flat = true ∧ ∀ i o,h1.lookup i = some o → FlatO o)) (hnx : ∀ id,nx ≤ id → id < nx + (k1 - sl.length) → ¬ D id) :
  Calls P f vs.toArray w (fun e w'=>∃ (v:Value) (D':AId → Prop) (m':AId → Option Blk),e = .returned v ∧ SimH D' m' ok (happ (callWh sl nx h1 k1) heap) w' ∧ Rep w' (okn ok m') D' m' false (renP (tau sl nx) r) v ∧ Step m w m' w' ∧ Mon D m m' ∧
   ∀ id,D' id ↔ D id ∨ (nx ≤ id ∧ id < nx + (k1 - sl.length))):=by
 obtain ⟨_,hk,hF⟩:=hF
 refine Calls.mono (hF (mv m sl) (okv ok m sl bs) w vs (hH.view hnd hbh hdis hh) (viewPs_rep hH mv_ids (fun b=>okv_okn) hbh (okv_bs hH hdis) hr hv)) ?_
 rintro e w' ⟨v,m0',rfl,hH',hrep,hst,hM⟩
 let m':AId → Option Blk:=fun id=>match back sl nx k1 id with | some i=>m0' i | none=>m id
 let D':AId → Prop:=fun id=>D id ∨ (nx ≤ id ∧ id < nx + (k1 - sl.length))
 have hm' : ∀ id i,back sl nx k1 id = some i → m' id = m0' i:=fun id i h=>by simp only [m',h]
 have hmn : ∀ id,back sl nx k1 id = none → m' id = m id:=fun id h=>by simp only [m',h]
 have hτ : ∀ i,i < k1 → D' (tau sl nx i) ∧ ∀ B,m' (tau sl nx i) = some B → m0' i = some B:=by
  intro i hi
  have hb:=back_tau (sl:=sl) (nx:=nx) hnd hnew hi
  refine ⟨?_,fun B hB=>by rw [hm' _ _ hb] at hB; exact hB⟩
  obtain ⟨_,_,h | h⟩:=back_some hk hb
  ·exact .inl (hsl _ (List.mem_of_getElem? h.2))
  ·exact .inr h.2
 have hoks:bs = [] → ∀ b,okn (okv ok m sl bs) m0' b → okn ok m' b:=by
  intro hbs b hb
  refine ⟨hb.1.1,fun id t e=>?_⟩
  cases hk:back sl nx k1 id with
  | some i=>rw [hm' _ _ hk] at e; exact hb.2 i t e
  | none =>
   rw [hmn _ hk] at e
   rcases hb.1.2 id t e with h | ⟨o,h⟩
   ·unfold back at hk
    split at hk
    ·cases hk
    ·rename_i hp
     exact posAt_none hp h
   ·rw [hbs] at h; simp at h
 have hstep:Step m w m' w':=by
  refine ⟨hst.os,hst.tape,hst.output,hst.size,fun b hb hn=>hst.keep b hb fun i t e=>?_,fun id b t e=>?_⟩
  ·obtain ⟨id,_,g2⟩:=mv_some e
   exact hn id t g2
  ·cases hk:back sl nx k1 id with
   | some i =>
    rw [hm' _ _ hk] at e
    rcases hst.own i b t e with ⟨i0,t0,g⟩ | g
    ·obtain ⟨id0,_,g2⟩:=mv_some g
     exact .inl ⟨id0,t0,g2⟩
    ·exact .inr g
   | none=>rw [hmn _ hk] at e; exact .inl ⟨id,t,e⟩
 have hMon:Mon D m m':=by
  intro id hd
  cases hkk:back sl nx k1 id with
  | none=>exact .inl (hmn _ hkk)
  | some i =>
   rw [hm' _ _ hkk]
   obtain ⟨_,_,h | h⟩:=back_some hk hkk
   ·rcases hM i h.1 with g | g
    ·left; rw [g]; simp [mv,h.2]
    ·exact .inr g
   ·exact absurd hd (hnx id h.2.1 h.2.2)
 have hval : ∀ {c:Bool} {p:PVal} {v:Value},(bs = [] ∨ p.flat = true) → Rep w' (okn (okv ok m sl bs) m0') (· < k1) m0' c p v → Rep w' (okn ok m') D' m' c (renP (tau sl nx) p) v:=by
  intro c p v hfl h
  refine Rep.ren (tau sl nx) (ok:=okn ok m') (D0:=(· < k1)) (m0:=m0') ?_ hτ
  rcases hfl with hb | hf
  ·exact h.mono (fun _ _ _ h=>h) (fun b hb' _=>hoks hb b hb') (fun h=>h) (fun _ _ _ h=>h) (fun _ _ _ _=>.inl rfl)
  ·exact h.flat hf
 have hvalc : ∀ {p:PVal} {v:Value},(bs = [] ∨ p.flat = true) → Rep w' (okn (okv ok m sl bs) m0') (· < k1) m0' true p v → Rep w' (okn ok m') D' m' true p v:=by
  intro p v hfl h
  rcases hfl with hb | hf
  ·exact h.mono (fun _ _ _ h=>h) (fun b hb' _=>hoks hb b hb') (fun h=>h) (fun h=>by cases h) (fun h=>by cases h)
  ·exact (h.flat hf).opened
 refine ⟨v,D',m',rfl,⟨fun id o ho=>?_,fun id B hB=>?_,fun id id' b t t' h h'=>?_,fun id b t h=>?_,fun id b t h=>?_,fun b hb=>hH.fresh b (Nat.le_trans hst.size hb),fun x hx=>⟨fun id t e=>?_,(hH'.glob x hx).2⟩⟩,hval (hfl.imp (fun h=>h) (fun h=>h.1)) hrep,hstep,hMon,fun id=>Iff.rfl⟩
 ·rw [happ_callWh hnd hnew hk] at ho
  cases hkk:back sl nx k1 id with
  | some i =>
   rw [hkk] at ho
   obtain ⟨o1,ho1,rfl⟩:=Option.map_eq_some_iff.1 ho
   obtain ⟨B,hB,hobj⟩:=hH'.obj i o1 ho1
   refine ⟨B,by rw [hm' _ _ hkk]; exact hB,?_⟩
   have hflo:bs = [] ∨ FlatO o1:=hfl.imp (fun h=>h) fun h=>h.2 i o1 ho1
   cases o1 with
   | box cs =>
    cases B with
    | nil=>exact hobj
    | «at» b t =>
     obtain ⟨us,ty,a1,a2,a3⟩:=hobj
     obtain ⟨g1,g2⟩:=renP_go (tau sl nx) cs
     refine ⟨us,ty,a1,by rw [a2,g1],fun j p hp=>?_⟩
     obtain ⟨p',b1,rfl⟩:=g2 j p hp
     obtain ⟨u,c1,c2,c3⟩:=a3 j p' b1
     exact ⟨u,c1,c2,hval (hflo.imp (fun h=>h) fun h=>PVal.flat_go h j p' b1) c3⟩
   | row sz ty es =>
    cases B with
    | nil=>exact hobj
    | «at» b t =>
     obtain ⟨us,a1,a2,a3,a3',a4,a5,a6⟩:=hobj
     refine ⟨us,a1,a2,a3,a3',a4,a5,fun i j e p he hp=>?_⟩
     obtain ⟨u,c1,c2,c3⟩:=a6 i j e p he hp
     exact ⟨u,c1,c2,hvalc (hflo.imp (fun h=>h) fun h=>PVal.flat_go (h e (List.mem_of_getElem? he)) j p hp) c3⟩
   | full sz ty es =>
    cases B with
    | nil=>exact hobj
    | «at» b t =>
     obtain ⟨us,a1,a2,a3,a3',a4,a5,a6⟩:=hobj
     refine ⟨us,a1,a2,a3,a3',a4,a5,fun i j e p he hp=>?_⟩
     rcases a6 i j e p he hp with c0 | ⟨u,c1,c2,c3⟩
     ·exact .inl c0
     ·exact .inr ⟨u,c1,c2,hvalc (hflo.imp (fun h=>h) fun h=>PVal.flat_go (h e (List.mem_of_getElem? he)) j p hp) c3⟩
   | mp kvs =>
    cases B with
    | nil=>exact hobj
    | «at» b t =>
     obtain ⟨ents,clock,a1,a2,a3⟩:=hobj
     refine ⟨ents,clock,a1,a2,fun i k x hkx=>?_⟩
     obtain ⟨e,c1,c2,c3⟩:=a3 i k x hkx
     exact ⟨e,c1,hvalc (hflo.imp (fun h=>h) fun h=>(h _ (List.mem_of_getElem? hkx)).1) c2,hvalc (hflo.imp (fun h=>h) fun h=>(h _ (List.mem_of_getElem? hkx)).2) c3⟩
   | mq clk es =>
    cases B with
    | nil=>exact hobj
    | «at» b t =>
     obtain ⟨ents,a1,a2,a3⟩:=hobj
     refine ⟨ents,a1,a2,fun i s k x hkx=>?_⟩
     obtain ⟨e,c1,c2,c3,c4⟩:=a3 i s k x hkx
     exact ⟨e,c1,c2,c3,hvalc (hflo.imp (fun h=>h) fun h=>h _ (List.mem_of_getElem? hkx)) c4⟩
  | none =>
   rw [hkk] at ho
   obtain ⟨B,hB,hobj⟩:=hH.obj id o ho
   refine ⟨B,by rw [hmn _ hkk]; exact hB,hobj.step hstep (fun b t e=>?_) (fun _ h=>.inl h) hMon⟩
   subst e
   refine hst.keep b (hH.lt id b t hB) fun i t' e=>?_
   obtain ⟨id',g1,g2⟩:=mv_some e
   have:=hH.inj id' id b t' t g2 hB
   subst this
   unfold back at hkk
   split at hkk
   ·cases hkk
   ·rename_i hp
    exact posAt_none hp (List.mem_of_getElem? g1)
 ·cases hkk:back sl nx k1 id with
  | some i =>
   obtain ⟨_,_,h | h⟩:=back_some hk hkk
   ·exact .inl (hsl _ (List.mem_of_getElem? h.2))
   ·exact .inr h.2
  | none=>rw [hmn _ hkk] at hB; exact .inl (hH.dom id B hB)
 ·have qv : ∀ id id' b t t' i,back sl nx k1 id = some i → back sl nx k1 id' = none → m0' i = some (.at b t) → m id' = some (.at b t') → False:=by
   intro id id' b t t' i h1 h2 h3 h4
   rcases hst.own i b t h3 with ⟨i0,t0,g⟩ | g
   ·obtain ⟨id0,g1,g2⟩:=mv_some g
    have:=hH.inj id0 id' b t0 t' g2 h4
    subst this
    unfold back at h2
    split at h2
    ·cases h2
    ·rename_i hp
     exact posAt_none hp (List.mem_of_getElem? g1)
   ·exact absurd (hH.lt id' b t' h4) (by omega)
  cases hk1:back sl nx k1 id with
  | some i =>
   cases hk2:back sl nx k1 id' with
   | some i' =>
    rw [hm' _ _ hk1] at h
    rw [hm' _ _ hk2] at h'
    have:=hH'.inj i i' b t t' h h'
    subst this
    rw [← (back_some hk hk1).2.1,(back_some hk hk2).2.1]
   | none=>rw [hm' _ _ hk1] at h; rw [hmn _ hk2] at h'; exact (qv id id' b t t' i hk1 hk2 h h').elim
  | none =>
   cases hk2:back sl nx k1 id' with
   | some i'=>rw [hmn _ hk1] at h; rw [hm' _ _ hk2] at h'; exact (qv id' id b t' t i' hk2 hk1 h' h).elim
   | none=>rw [hmn _ hk1] at h; rw [hmn _ hk2] at h'; exact hH.inj id id' b t t' h h'
 ·cases hkk:back sl nx k1 id with
  | some i=>rw [hm' _ _ hkk] at h; exact hH'.lt i b t h
  | none=>rw [hmn _ hkk] at h; exact Nat.lt_of_lt_of_le (hH.lt id b t h) hst.size
 ·cases hkk:back sl nx k1 id with
  | some i=>rw [hm' _ _ hkk] at h; exact (hH'.okm i b t h).1
  | none=>rw [hmn _ hkk] at h; exact hH.okm id b t h
 ·cases hkk:back sl nx k1 id with
  | some i=>rw [hm' _ _ hkk] at e; exact (hH'.glob x hx).1 i t e
  | none=>rw [hmn _ hkk] at e; exact (hH.glob x hx).1 id t e
end
end Go.Proofs.YtakallenldpkiaaGreatDoor.Abs
end
