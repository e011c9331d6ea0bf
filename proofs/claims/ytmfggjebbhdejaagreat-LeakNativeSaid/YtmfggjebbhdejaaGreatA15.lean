/- Values seen by another: ids renamed, objects that are looked at alone. Generic over any program. -/
import Derived.Test.YtmfggjebbhdejaaGreatA14
set_option linter.unusedVariables false
set_option linter.unusedSimpArgs false
namespace Go.Proofs.YtmfggjebbhdejaaGreat.Abs
open Go
def posAt:List Nat → Nat → Nat → Option Nat
 | [],_,_=>none
 | x :: r,id,k=>if x = id then some k else posAt r id (k + 1)
theorem posAt_get : ∀ {l:List Nat} {id k i:Nat},posAt l id k = some i → ∃ j,i = k + j ∧ l[j]? = some id
 | [],id,k,i,h=>by simp [posAt] at h
 | x :: r,id,k,i,h=>by
  unfold posAt at h
  split at h
  ·rename_i hx
   injection h with h
   exact ⟨0,by omega,by simp [hx]⟩
  ·obtain ⟨j,h1,h2⟩:=posAt_get h
   exact ⟨j + 1,by omega,by simpa using h2⟩
def viewP (sl:List Nat) (bs:List (AId × AObj)):PVal → Option PVal
 | .agg cs=>match go cs with | some l=>some (.agg l) | none=>none
 | .tup cs=>match go cs with | some l=>some (.tup l) | none=>none
 | .fn f a b=>match go a,go b with | some a',some b'=>some (.fn f a' b') | _,_=>none
 | .iface t v=>match viewP sl bs v with | some v'=>some (.iface t v') | none=>none
 | .ptr id off=>match posAt sl id 0 with
  | some i=>some (.ptr i off)
  | none=>match bs.lookup id with
    | some (.box cs)=>if PVal.closed.go cs then some (.rptr (cs.drop off)) else none
    | _=>none
 | .eptr id sz i off=>match posAt sl id 0 with
  | some j=>some (.eptr j sz i off)
  | none=>none
 | .own id sz lo n=>match posAt sl id 0 with
  | some j=>some (.own j sz lo n)
  | none=>match bs.lookup id with
    | some (.row sz' _ es)=>if sz' = sz ∧ lo + n ≤ es.length then some (.ro sz ((es.drop lo).take n)) else none
    | _=>none
 | .mapr id=>match posAt sl id 0 with
  | some j=>some (.mapr j)
  | none=>none
 | p=>some p
where
 go:List PVal → Option (List PVal)
  | []=>some []
  | p :: r=>match viewP sl bs p,go r with
   | some q,some l=>some (q :: l)
   | _,_=>none
theorem viewP_go {sl:List Nat} {bs:List (AId × AObj)} : ∀ {l l':List PVal},viewP.go sl bs l = some l' → l'.length = l.length ∧ ∀ (i:Nat) (q:PVal),l'[i]? = some q → ∃ p,l[i]? = some p ∧ viewP sl bs p = some q
 | [],l',h=>by
  simp [viewP.go] at h
  subst h
  exact ⟨rfl,fun i q h=>by simp at h⟩
 | p :: r,l',h=>by
  simp only [viewP.go] at h
  split at h
  ·rename_i q l h1 h2
   injection h with h
   subst h
   obtain ⟨g1,g2⟩:=viewP_go h2
   refine ⟨by simp [g1],fun i q' hq=>?_⟩
   cases i with
   | zero=>simp at hq; subst hq; exact ⟨p,rfl,h1⟩
   | succ i=>obtain ⟨p',a1,a2⟩:=g2 i q' (by simpa using hq); exact ⟨p',by simpa using a1,a2⟩
  ·cases h
def PVal.flat:PVal → Bool
 | .agg cs=>go cs
 | .tup cs=>go cs
 | .fn _ a b=>go a && go b
 | .iface _ v=>v.flat
 | .ro .. | .rptr ..=>false
 | _=>true
where
 go:List PVal → Bool
  | []=>true
  | p :: r=>p.flat && go r
theorem PVal.flat_go {l:List PVal} (h:PVal.flat.go l = true) : ∀ (i:Nat) (p:PVal),l[i]? = some p → p.flat = true:=by
 induction l with
 | nil=>intro i p hp; simp at hp
 | cons q r ih =>
  simp only [PVal.flat.go,Bool.and_eq_true] at h
  intro i p hp
  cases i with
  | zero=>simp at hp; subst hp; exact h.1
  | succ i=>simp at hp; exact ih h.2 i p hp
theorem Rep.flat {w:World} {ok ok':Nat → Prop} {D:AId → Prop} {m:AId → Option Blk} {c:Bool} {p:PVal} {v:Value} (h:Rep w ok D m c p v) (hp:p.flat = true):Rep w ok' D m c p v:=by
 induction h with
 | undef=>exact .undef
 | hole=>exact .hole
 | bool=>exact .bool
 | int=>exact .int
 | str=>exact .str
 | nilp=>exact .nilp
 | nils=>exact .nils
 | nilf=>exact .nilf
 | yld=>exact .yld
 | nili=>exact .nili
 | nilm=>exact .nilm
 | anyb=>exact .anyb
 | agg hl h1 _ ih=>exact .agg hl h1 (fun i p v hp' hv=>ih i p v hp' hv (PVal.flat_go (by simpa [PVal.flat] using hp) i p hp'))
 | tup hl _ ih=>exact .tup hl (fun i p v hp' hv=>ih i p v hp' hv (PVal.flat_go (by simpa [PVal.flat] using hp) i p hp'))
 | ro vs hn hcp hml hs hA hcell h _=>simp [PVal.flat] at hp
 | rptr vs hcell h _=>simp [PVal.flat] at hp
 | ptr hd h1 h=>exact .ptr hd h1 h
 | eptr hd h1 h=>exact .eptr hd h1 h
 | own hd h1 h=>exact .own hd h1 h
 | mapr hd h1 h=>exact .mapr hd h1 h
 | fn hl1 hl2 _ _ ih1 ih2 =>
  simp only [PVal.flat,Bool.and_eq_true] at hp
  exact .fn hl1 hl2 (fun i p v hp' hv=>ih1 i p v hp' hv (PVal.flat_go hp.1 i p hp')) (fun i p v hp' hv=>ih2 i p v hp' hv (PVal.flat_go hp.2 i p hp'))
 | iface _ ih=>exact .iface (ih (by simpa [PVal.flat] using hp))
def renP (τ:Nat → Nat):PVal → PVal
 | .agg cs=>.agg (go cs)
 | .tup cs=>.tup (go cs)
 | .fn f a b=>.fn f (go a) (go b)
 | .iface t v=>.iface t (renP τ v)
 | .ptr id off=>.ptr (τ id) off
 | .eptr id sz i off=>.eptr (τ id) sz i off
 | .own id sz lo n=>.own (τ id) sz lo n
 | .mapr id=>.mapr (τ id)
 | p=>p
where
 go:List PVal → List PVal
  | []=>[]
  | p :: r=>renP τ p :: go r
theorem renP_go (τ:Nat → Nat) : ∀ (l:List PVal),(renP.go τ l).length = l.length ∧ ∀ (i:Nat) (q:PVal),(renP.go τ l)[i]? = some q → ∃ p,l[i]? = some p ∧ renP τ p = q
 | []=>⟨rfl,fun i q h=>by simp [renP.go] at h⟩
 | p :: r=>by
  obtain ⟨g1,g2⟩:=renP_go τ r
  refine ⟨by simp [renP.go,g1],fun i q hq=>?_⟩
  cases i with
  | zero=>simp [renP.go] at hq; exact ⟨p,rfl,hq⟩
  | succ i=>simp [renP.go] at hq; obtain ⟨p',a1,a2⟩:=g2 i q hq; exact ⟨p',by simpa using a1,a2⟩
theorem Rep.ren {w:World} {ok:Nat → Prop} {D0 D:AId → Prop} {m0 m:AId → Option Blk} {c:Bool} {p:PVal} {v:Value} (τ:Nat → Nat) (h:Rep w ok D0 m0 c p v) (hτ : ∀ i,D0 i → D (τ i) ∧ ∀ B,m (τ i) = some B → m0 i = some B) :
  Rep w ok D m c (renP τ p) v:=by
 induction h with
 | undef=>exact .undef
 | hole=>exact .hole
 | bool=>exact .bool
 | int=>exact .int
 | str=>exact .str
 | nilp=>exact .nilp
 | nils=>exact .nils
 | nilf=>exact .nilf
 | yld=>exact .yld
 | nili=>exact .nili
 | nilm=>exact .nilm
 | anyb=>exact .anyb
 | agg hl h1 _ ih =>
  obtain ⟨g1,g2⟩:=renP_go τ _
  refine .agg (by rw [g1,hl]) h1 (fun i p v hp' hv=>?_)
  obtain ⟨p',a1,rfl⟩:=g2 i p hp'
  exact ih i p' v a1 hv
 | tup hl _ ih =>
  obtain ⟨g1,g2⟩:=renP_go τ _
  refine .tup (by rw [g1,hl]) (fun i p v hp' hv=>?_)
  obtain ⟨p',a1,rfl⟩:=g2 i p hp'
  exact ih i p' v a1 hv
 | ro vs hn hcp hml hs hA hcell h _=>exact .ro vs hn hcp hml hs hA hcell fun i j e p he hp=>(h i j e p he hp).opened
 | rptr vs hcell h _=>exact .rptr vs hcell fun j p hp=>(h j p hp).opened
 | ptr hd h1 h=>exact .ptr (hτ _ hd).1 h1 fun b t e=>h b t ((hτ _ hd).2 _ e)
 | eptr hd h1 h=>exact .eptr (hτ _ hd).1 h1 fun b t e=>h b t ((hτ _ hd).2 _ e)
 | own hd h1 h=>exact .own (hτ _ hd).1 h1 fun B e=>h B ((hτ _ hd).2 _ e)
 | mapr hd h1 h=>exact .mapr (hτ _ hd).1 h1 fun b t e=>h b t ((hτ _ hd).2 _ e)
 | fn hl1 hl2 _ _ ih1 ih2 =>
  obtain ⟨g1,g2⟩:=renP_go τ _
  obtain ⟨g3,g4⟩:=renP_go τ _
  refine .fn (by rw [g1,hl1]) (by rw [g3,hl2]) (fun i p v hp' hv=>?_) (fun i p v hp' hv=>?_)
  ·obtain ⟨p',a1,rfl⟩:=g2 i p hp'
   exact ih1 i p' v a1 hv
  ·obtain ⟨p',a1,rfl⟩:=g4 i p hp'
   exact ih2 i p' v a1 hv
 | iface _ ih=>exact .iface ih
section
variable {w:World} {ok ok0:Nat → Prop} {D D0:AId → Prop} {m m0:AId → Option Blk} {heap:Heap} {sl:List Nat} {bs:List (AId × AObj)}
theorem own_ro (hH:SimH D m ok heap w) {id sz ty lo n:Nat} {es:List (List PVal)} (ho:heap id = some (.row sz ty es)) (hl:lo + n ≤ es.length) {c:Bool} {v:Value} (hv:Rep w (okn ok m) D m c (.own id sz lo n) v)
  (hok : ∀ b,okn ok m b → okn ok0 m0 b) (hb : ∀ b t,m id = some (.at b t) → okn ok0 m0 b):Rep w (okn ok0 m0) D0 m0 c (.ro sz ((es.drop lo).take n)) v:=by
 cases hv with
 | own hd h1 h =>
  obtain ⟨B,hB,hobj⟩:=hH.obj id _ ho
  have hov:=h B hB
  have hlen:((es.drop lo).take n).length = n:=by simp; omega
  cases B with
  | nil =>
   obtain ⟨⟨A0,rfl⟩,rfl,rfl⟩:=hov
   exact .ro (ad:=⟨0,0,none⟩) (fun _ _=>undef) (by simp) (Nat.le_refl _) (Nat.zero_le _) (fun e he=>by simp at he) (fun h=>by omega) (fun i j e p he=>by simp at he) (fun i j e p he=>by simp at he)
  | «at» b tot =>
   obtain ⟨a,cap,rfl,ha1,ha2,ha3,hn,hcap,hmx⟩:=hov
   obtain ⟨vs,g1,g2,g3,g4,g5,g6,g7⟩:=hobj
   have hget : ∀ (i j:Nat) (e:List PVal) (p:PVal),((es.drop lo).take n)[i]? = some e → e[j]? = some p → ∃ u,vs[(lo + i) * sz + j]? = some u ∧ u.oneCell' = true ∧ Rep w (okn ok m) D m true p u ∧ w.cell? (a.add (i * sz + j)) = some u:=by
    intro i j e p he hp
    have hi:i < n:=by have:=(List.getElem?_eq_some_iff.1 he).1; omega
    have he':es[lo + i]? = some e:=by
     have:=get_of_take he
     rwa [List.getElem?_drop] at this
    obtain ⟨u,q1,q2,q3⟩:=g7 (lo + i) j e p he' hp
    refine ⟨u,q1,q2,q3,?_⟩
    have hoff:a.off = lo * sz:=by rcases ha3 with h | ⟨h,_⟩; exact h; omega
    obtain ⟨ab,ao,asp⟩:=a
    simp only at ha1 ha2 hoff
    subst ha1 ha2 hoff
    rw [add_flat,cell_at g1,← q1]
    congr 1
    rw [Nat.add_mul]; omega
   refine .ro (ad:=a) (fun i j=>(vs[(lo + i) * sz + j]?).getD undef) hlen hn (by omega) (fun e he=>g6 e (List.mem_of_mem_drop (List.mem_of_mem_take he))) (fun _=>rfl) (fun i j e p he hp=>?_) (fun i j e p he hp=>?_)
   ·obtain ⟨u,q1,q2,q3,q4⟩:=hget i j e p he hp
    rw [ha1,q1]
    exact ⟨hb b tot hB,q4,q2⟩
   ·obtain ⟨u,q1,q2,q3,q4⟩:=hget i j e p he hp
    rw [q1]
    exact q3.mono (fun _ _ _ h=>h) (fun b hb _=>hok b hb) (fun _=>rfl) (fun h=>by cases h) (fun h=>by cases h)
theorem ptr_rptr (hH:SimH D m ok heap w) {id off:Nat} {cs:List PVal} (ho:heap id = some (.box cs)) (hcl:PVal.closed.go cs = true) {c:Bool} {v:Value} (hv:Rep w (okn ok m) D m c (.ptr id off) v)
  (hok : ∀ b,okn ok m b → okn ok0 m0 b) (hb : ∀ b t,m id = some (.at b t) → okn ok0 m0 b):Rep w (okn ok0 m0) D0 m0 c (.rptr (cs.drop off)) v:=by
 cases hv with
 | ptr hd h1 h =>
  obtain ⟨b,t,hB,hobj⟩:=obj_at hH ho
  have:=h b t hB
  subst this
  obtain ⟨vs,ty,g1,g2,g3⟩:=hobj
  have hget : ∀ (j:Nat) (p:PVal),(cs.drop off)[j]? = some p → ∃ u,vs[off + j]? = some u ∧ u.oneCell' = true ∧ Rep w (okn ok m) D m true p u:=by
   intro j p hp
   rw [List.getElem?_drop] at hp
   obtain ⟨u,q1,q2,q3⟩:=g3 _ p hp
   exact ⟨u,q1,q2,q3.close (PVal.closed_go hcl _ p hp)⟩
  refine .rptr (fun j=>(vs[off + j]?).getD undef) (fun j p hp=>?_) (fun j p hp=>?_)
  ·obtain ⟨u,q1,q2,q3⟩:=hget j p hp
   rw [q1]
   refine ⟨hb b t hB,?_,q2⟩
   rw [add_flat,cell_at g1,q1]
   rfl
  ·obtain ⟨u,q1,q2,q3⟩:=hget j p hp
   rw [q1]
   exact q3.mono (fun _ _ _ h=>h) (fun b hb _=>hok b hb) (fun _=>rfl) (fun h=>by cases h) (fun h=>by cases h)
theorem viewP_rep (hH:SimH D m ok heap w) (hσ : ∀ id i,posAt sl id 0 = some i → D0 i ∧ ∀ B,m0 i = some B → m id = some B) (hok : ∀ b,okn ok m b → okn ok0 m0 b) (hbh : ∀ id o,bs.lookup id = some o → heap id = some o) (hb : ∀ id o,bs.lookup id = some o → ∀ b t,m id = some (.at b t) → okn ok0 m0 b)
  {c:Bool} {p:PVal} {v:Value} (h:Rep w (okn ok m) D m c p v) {q:PVal} (hq:viewP sl bs p = some q):Rep w (okn ok0 m0) D0 m0 c q v:=by
 have hmono : ∀ {c:Bool} {p:PVal} {v:Value},Rep w (okn ok m) D m true p v → Rep w (okn ok0 m0) D0 m0 c p v:=fun h=>Rep.opened (D:=D) (m:=m) (h.mono (fun _ _ _ h=>h) (fun b hb _=>hok b hb) (fun _=>rfl) (fun h=>by cases h) (fun h=>by cases h))
 generalize hm:okn ok m = okm at h
 induction h generalizing q with
 | undef=>simp only [viewP,Option.some.injEq] at hq; subst hq; exact .undef
 | hole=>simp only [viewP,Option.some.injEq] at hq; subst hq; exact .hole
 | bool=>simp only [viewP,Option.some.injEq] at hq; subst hq; exact .bool
 | int=>simp only [viewP,Option.some.injEq] at hq; subst hq; exact .int
 | str=>simp only [viewP,Option.some.injEq] at hq; subst hq; exact .str
 | nilp=>simp only [viewP,Option.some.injEq] at hq; subst hq; exact .nilp
 | nils=>simp only [viewP,Option.some.injEq] at hq; subst hq; exact .nils
 | nilf=>simp only [viewP,Option.some.injEq] at hq; subst hq; exact .nilf
 | yld=>simp only [viewP,Option.some.injEq] at hq; subst hq; exact .yld
 | nili=>simp only [viewP,Option.some.injEq] at hq; subst hq; exact .nili
 | nilm=>simp only [viewP,Option.some.injEq] at hq; subst hq; exact .nilm
 | anyb=>simp only [viewP,Option.some.injEq] at hq; subst hq; exact .anyb
 | agg hl h1 _ ih =>
  simp only [viewP] at hq
  split at hq
  ·rename_i l hl'
   injection hq with hq
   subst hq
   obtain ⟨g1,g2⟩:=viewP_go hl'
   refine .agg (by rw [g1,hl]) h1 (fun i p v hp' hv=>?_)
   obtain ⟨p',a1,a2⟩:=g2 i p hp'
   exact ih i p' v a1 hv a2
  ·cases hq
 | tup hl _ ih =>
  simp only [viewP] at hq
  split at hq
  ·rename_i l hl'
   injection hq with hq
   subst hq
   obtain ⟨g1,g2⟩:=viewP_go hl'
   refine .tup (by rw [g1,hl]) (fun i p v hp' hv=>?_)
   obtain ⟨p',a1,a2⟩:=g2 i p hp'
   exact ih i p' v a1 hv a2
  ·cases hq
 | ro vs hn hcp hml hs hA hcell h _ =>
  simp only [viewP,Option.some.injEq] at hq
  subst hq
  subst hm
  exact hmono (.ro vs hn hcp hml hs hA hcell h)
 | rptr vs hcell h _ =>
  simp only [viewP,Option.some.injEq] at hq
  subst hq
  subst hm
  exact hmono (.rptr vs hcell h)
 | ptr hd h1 h =>
  simp only [viewP] at hq
  split at hq
  ·rename_i i hi
   injection hq with hq
   subst hq
   exact .ptr (hσ _ _ hi).1 h1 fun b t e=>h b t ((hσ _ _ hi).2 _ e)
  ·split at hq
   ·rename_i cs ho
    split at hq
    ·rename_i hcl
     injection hq with hq
     subst hq
     subst hm
     exact ptr_rptr hH (hbh _ _ ho) hcl (.ptr hd h1 h) hok (hb _ _ ho)
    ·cases hq
   ·cases hq
 | eptr hd h1 h =>
  simp only [viewP] at hq
  split at hq
  ·rename_i i hi
   injection hq with hq
   subst hq
   exact .eptr (hσ _ _ hi).1 h1 fun b t e=>h b t ((hσ _ _ hi).2 _ e)
  ·cases hq
 | own hd h1 h =>
  simp only [viewP] at hq
  split at hq
  ·rename_i i hi
   injection hq with hq
   subst hq
   exact .own (hσ _ _ hi).1 h1 fun B e=>h B ((hσ _ _ hi).2 _ e)
  ·split at hq
   ·rename_i sz' ty es ho
    split at hq
    ·rename_i hcond
     injection hq with hq
     subst hq
     subst hm
     obtain ⟨rfl,hle⟩:=hcond
     exact own_ro hH (hbh _ _ ho) hle (.own hd h1 h) hok (hb _ _ ho)
    ·cases hq
   ·cases hq
 | mapr hd h1 h =>
  simp only [viewP] at hq
  split at hq
  ·rename_i i hi
   injection hq with hq
   subst hq
   exact .mapr (hσ _ _ hi).1 h1 fun b t e=>h b t ((hσ _ _ hi).2 _ e)
  ·cases hq
 | fn hl1 hl2 _ _ ih1 ih2 =>
  simp only [viewP] at hq
  split at hq
  ·rename_i a' b' ha hb'
   injection hq with hq
   subst hq
   obtain ⟨g1,g2⟩:=viewP_go ha
   obtain ⟨g3,g4⟩:=viewP_go hb'
   refine .fn (by rw [g1,hl1]) (by rw [g3,hl2]) (fun i p v hp' hv=>?_) (fun i p v hp' hv=>?_)
   ·obtain ⟨p',a1,a2⟩:=g2 i p hp'
    exact ih1 i p' v a1 hv a2
   ·obtain ⟨p',a1,a2⟩:=g4 i p hp'
    exact ih2 i p' v a1 hv a2
  ·cases hq
 | iface _ ih =>
  simp only [viewP] at hq
  split at hq
  ·rename_i v' hv'
   injection hq with hq
   subst hq
   exact .iface (ih hv')
  ·cases hq
theorem viewPs_rep (hH:SimH D m ok heap w) (hσ : ∀ id i,posAt sl id 0 = some i → D0 i ∧ ∀ B,m0 i = some B → m id = some B) (hok : ∀ b,okn ok m b → okn ok0 m0 b) (hbh : ∀ id o,bs.lookup id = some o → heap id = some o) (hb : ∀ id o,bs.lookup id = some o → ∀ b t,m id = some (.at b t) → okn ok0 m0 b)
  {c:Bool} {ps qs:List PVal} {vs:List Value} (h:Reps w (okn ok m) D m c ps vs) (hq:viewP.go sl bs ps = some qs):Reps w (okn ok0 m0) D0 m0 c qs vs:=by
 obtain ⟨g1,g2⟩:=viewP_go hq
 refine ⟨by rw [g1,h.1],fun i q v hq hv=>?_⟩
 obtain ⟨p,a1,a2⟩:=g2 i q hq
 exact viewP_rep hH hσ hok hbh hb (h.2 i p v a1 hv) a2
def viewO (sl:List Nat) (bs:List (AId × AObj)):AObj → Option AObj
 | .box cs=>match viewP.go sl bs cs with | some l=>some (.box l) | none=>none
 | o=>some o
theorem viewO_rep (hH:SimH D m ok heap w) (hσ : ∀ id i,posAt sl id 0 = some i → D0 i ∧ ∀ B,m0 i = some B → m id = some B) (hok : ∀ b,okn ok m b → okn ok0 m0 b) (hbh : ∀ id o,bs.lookup id = some o → heap id = some o) (hb : ∀ id o,bs.lookup id = some o → ∀ b t,m id = some (.at b t) → okn ok0 m0 b)
  {o o':AObj} {B:Blk} (h:RepObj w ok D m o B) (hq:viewO sl bs o = some o'):RepObj w ok0 D0 m0 o' B:=by
 have hmono : ∀ {p:PVal} {v:Value},Rep w (okn ok m) D m true p v → Rep w (okn ok0 m0) D0 m0 true p v:=fun h=>Rep.opened (D:=D) (m:=m) (h.mono (fun _ _ _ h=>h) (fun b hb _=>hok b hb) (fun _=>rfl) (fun h=>by cases h) (fun h=>by cases h))
 cases o with
 | box cs =>
  simp only [viewO] at hq
  split at hq
  ·rename_i l hl
   injection hq with hq
   subst hq
   cases B with
   | nil=>exact h
   | «at» b t =>
    obtain ⟨vs,ty,h1,h2,h3⟩:=h
    obtain ⟨g1,g2⟩:=viewP_go hl
    refine ⟨vs,ty,h1,by rw [h2,g1],fun i p hp=>?_⟩
    obtain ⟨p',a1,a2⟩:=g2 i p hp
    obtain ⟨v,q1,q2,q3⟩:=h3 i p' a1
    exact ⟨v,q1,q2,viewP_rep hH hσ hok hbh hb q3 a2⟩
  ·cases hq
 | row sz ty es =>
  simp only [viewO,Option.some.injEq] at hq
  subst hq
  cases B with
  | nil=>exact h
  | «at» b t =>
   obtain ⟨vs,h1,h2,h3,h3',h4,h5,h6⟩:=h
   refine ⟨vs,h1,h2,h3,h3',h4,h5,fun i j e p he hp=>?_⟩
   obtain ⟨v,h7,h8,h9⟩:=h6 i j e p he hp
   exact ⟨v,h7,h8,hmono h9⟩
 | full sz ty es =>
  simp only [viewO,Option.some.injEq] at hq
  subst hq
  cases B with
  | nil=>exact h
  | «at» b t =>
   obtain ⟨vs,h1,h2,h3,h3',h4,h5,h6⟩:=h
   refine ⟨vs,h1,h2,h3,h3',h4,h5,fun i j e p he hp=>?_⟩
   rcases h6 i j e p he hp with h7 | ⟨v,h7,h8,h9⟩
   ·exact .inl h7
   ·exact .inr ⟨v,h7,h8,hmono h9⟩
 | mp kvs =>
  simp only [viewO,Option.some.injEq] at hq
  subst hq
  cases B with
  | nil=>exact h
  | «at» b t =>
   obtain ⟨ents,clock,h1,h2,h3⟩:=h
   refine ⟨ents,clock,h1,h2,fun i k x hkx=>?_⟩
   obtain ⟨e,h4,h5,h6⟩:=h3 i k x hkx
   exact ⟨e,h4,hmono h5,hmono h6⟩
end
mutual
inductive WeakP:PVal → PVal → Prop where
 | refl {p:PVal}:WeakP p p
 | nil {sz:Nat}:WeakP .nils (.ro sz [])
 | agg {l l':List PVal} (h:WeakL l l'):WeakP (.agg l) (.agg l')
 | tup {l l':List PVal} (h:WeakL l l'):WeakP (.tup l) (.tup l')
inductive WeakL:List PVal → List PVal → Prop where
 | refl {l:List PVal}:WeakL l l
 | cons {p p':PVal} {l l':List PVal} (h:WeakP p p') (k:WeakL l l'):WeakL (p :: l) (p' :: l')
end
theorem WeakL.get : ∀ {l l':List PVal},WeakL l l' → l'.length = l.length ∧ ∀ (i:Nat) (q:PVal),l'[i]? = some q → ∃ p,l[i]? = some p ∧ WeakP p q
 | _,_,.refl=>⟨rfl,fun i q h=>⟨q,h,.refl⟩⟩
 | _,_,.cons (l:=l) (l':=l') h k=>by
  obtain ⟨h1,h2⟩:=WeakL.get k
  refine ⟨by simp [h1],fun i q hq=>?_⟩
  cases i with
  | zero=>simp at hq; subst hq; exact ⟨_,rfl,h⟩
  | succ i=>obtain ⟨p',a1,a2⟩:=h2 i q (by simpa using hq); exact ⟨p',by simpa using a1,a2⟩
theorem Rep.weak {w:World} {ok:Nat → Prop} {D:AId → Prop} {m:AId → Option Blk} {c:Bool} {p:PVal} {v:Value} (h:Rep w ok D m c p v) : ∀ {p':PVal},WeakP p p' → Rep w ok D m c p' v:=by
 induction h with
 | agg hl h1 h ih =>
  rename_i c cs vs
  intro p' hw
  cases hw with
  | refl=>exact .agg hl h1 h
  | agg hw =>
   obtain ⟨g1,g2⟩:=hw.get
   refine .agg (by omega) h1 fun i q v hq hv=>?_
   obtain ⟨p,a1,a2⟩:=g2 i q hq
   exact ih i p v a1 hv a2
 | tup hl h ih =>
  rename_i c cs vs
  intro p' hw
  cases hw with
  | refl=>exact .tup hl h
  | tup hw =>
   obtain ⟨g1,g2⟩:=hw.get
   refine .tup (by omega) fun i q v hq hv=>?_
   obtain ⟨p,a1,a2⟩:=g2 i q hq
   exact ih i p v a1 hv a2
 | nils =>
  intro p' hw
  cases hw with
  | refl=>exact .nils
  | nil=>exact .ro (ad:=⟨0,0,none⟩) (fun _ _=>default) rfl (Nat.le_refl _) (Nat.zero_le _) (fun e he=>by cases he) (fun h=>by cases h) (fun i j e p he=>by simp at he) (fun i j e p he=>by simp at he)
 | undef=>intro p' hw; cases hw; exact .undef
 | hole=>intro p' hw; cases hw; exact .hole
 | bool=>intro p' hw; cases hw; exact .bool
 | int=>intro p' hw; cases hw; exact .int
 | str=>intro p' hw; cases hw; exact .str
 | nilp=>intro p' hw; cases hw; exact .nilp
 | nilf=>intro p' hw; cases hw; exact .nilf
 | yld=>intro p' hw; cases hw; exact .yld
 | nili=>intro p' hw; cases hw; exact .nili
 | nilm=>intro p' hw; cases hw; exact .nilm
 | anyb=>intro p' hw; cases hw; exact .anyb
 | ro vs hn hc hm hs hA hcell h ih=>intro p' hw; cases hw; exact .ro vs hn hc hm hs hA hcell h
 | rptr vs hcell h ih=>intro p' hw; cases hw; exact .rptr vs hcell h
 | ptr hd h1 h=>intro p' hw; cases hw; exact .ptr hd h1 h
 | eptr hd h1 h=>intro p' hw; cases hw; exact .eptr hd h1 h
 | own hd h1 h=>intro p' hw; cases hw; exact .own hd h1 h
 | mapr hd h1 h=>intro p' hw; cases hw; exact .mapr hd h1 h
 | fn a b c d e f=>intro p' hw; cases hw; exact .fn a b c d
 | iface h ih=>intro p' hw; cases hw; exact .iface h
end Go.Proofs.YtmfggjebbhdejaaGreat.Abs
