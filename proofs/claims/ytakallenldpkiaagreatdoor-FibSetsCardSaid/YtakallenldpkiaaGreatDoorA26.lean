/- Calls with any objects in drawn regions; boxes whose cells hold nil slices, or rows of one's own. Generic over any program. -/
import Derived.Test.YtakallenldpkiaaGreatDoorA25
set_option linter.unusedVariables false
set_option linter.unusedSimpArgs false
set_option linter.unusedSectionVars false
namespace Go.Proofs.YtakallenldpkiaaGreatDoor.Abs
open Go
variable [DqC]
section
variable {P:Program} {n k0:Nat} {K:St → Prop} {l:List AO} {env env':List (Nat × PVal)} {heap zx:List (AId × AObj)} {next zy d:Nat} {xs:List AX} {ps qs:List PVal} {dr:List (List Nat)} {racc:List Eff} {g:Option (Nat × Bool)} {Q:Exit → St → Prop} {r:List AC}
theorem RD.callx {f:FuncId} {r r':PVal} {h0 h1:List (AId × AObj)} {k1:Nat} (sl bi:List Nat) (hd:Nat.blt d n = true) (hg:guarded env g = some true) (hx:evalXs env xs = some ps) (hv:viewP.go sl (pickH heap bi) ps = some qs)
  (h0':subH heap sl (pickH heap bi) sl 0 = some h0) (hs:slOk sl bi next = true) (hF:FnOk P f qs h0 sl.length r h1 k1) (hfl:bi = [] ∨ FlatR r h1) (hr:renP (tau sl next) r = r') (hh:happL (callWh sl next h1 k1) heap = zx) (hn:next + (k1 - sl.length) = zy)
  (k:RD P n dr K l ({ rt:=tmpsG g ++ tmpsX xs,wt:=some (d,.undef),rh:=sl ++ bi,wh:=(callWh sl next h1 k1).map fun x=>(x.1,none),nw:=[] } :: racc) ⟨(d,r') :: env,zx,zy⟩):RD P n dr K (⟨some d,g,.call f,xs⟩ :: l) racc ⟨env,heap,next⟩:=by
 subst hr hh hn
 have hd':dOk n (some d) = true:=by simpa [dOk,Nat.blt_eq] using hd
 refine RD.eff (call_ok (st:=⟨env,heap,next⟩) (ao:=⟨some d,g,.call f,xs⟩) rfl hd' hg hx hF (sl:=sl) (bi:=bi) hv h0' hs hfl) ?_
 simpa only [St.app,Eff.er,callEff,Option.map_some,envApp,List.length_range'] using k
theorem EffOk.keep {st:St} {ao:AO} {e:Eff} (he:EffOk P n st ao e) (kc:List (AId × Nat)) (hk : ∀ x ∈ kc,cellAt x.2 (happ e.wh st.h x.1) = cellAt x.2 (st.h x.1)):EffOk P n st ao { e with kc:=kc } :=
 ⟨he.1,fun ops i o ho ht=>⟨hk,(he.2 ops i o ho ht).2⟩⟩
theorem RD.callxk {f:FuncId} {r r':PVal} {h0 h1:List (AId × AObj)} {k1:Nat} (kc:List (AId × Nat)) (hk : ∀ x ∈ kc,cellAt x.2 (zx.lookup x.1) = cellAt x.2 (heap.lookup x.1)) (sl bi:List Nat) (hd:Nat.blt d n = true) (hg:guarded env g = some true) (hx:evalXs env xs = some ps) (hv:viewP.go sl (pickH heap bi) ps = some qs)
  (h0':subH heap sl (pickH heap bi) sl 0 = some h0) (hs:slOk sl bi next = true) (hF:FnOk P f qs h0 sl.length r h1 k1) (hfl:bi = [] ∨ FlatR r h1) (hr:renP (tau sl next) r = r') (hh:happL (callWh sl next h1 k1) heap = zx) (hn:next + (k1 - sl.length) = zy)
  (k:RD P n dr K l ({ rt:=tmpsG g ++ tmpsX xs,wt:=some (d,.undef),rh:=sl ++ bi,wh:=(callWh sl next h1 k1).map fun x=>(x.1,none),nw:=[],kc:=kc } :: racc) ⟨(d,r') :: env,zx,zy⟩):RD P n dr K (⟨some d,g,.call f,xs⟩ :: l) racc ⟨env,heap,next⟩:=by
 subst hr hh hn
 have hd':dOk n (some d) = true:=by simpa [dOk,Nat.blt_eq] using hd
 refine RD.eff (EffOk.keep (call_ok (st:=⟨env,heap,next⟩) (ao:=⟨some d,g,.call f,xs⟩) rfl hd' hg hx hF (sl:=sl) (bi:=bi) hv h0' hs hfl) kc (fun x hx=>?_)) ?_
 ·have h2:=hk x hx
  rw [lookup_happL] at h2
  exact h2
 simpa only [St.app,Eff.er,callEff,Option.map_some,envApp,List.length_range'] using k
theorem loadc_ok {st:St} {d id off:Nat} {xs:List AX} {g:Option (Nat × Bool)} {cs:List PVal} {v:PVal} (hd:dOk n (some d) = true) (hg:guarded st.env g = some true) (hx:evalXs st.env xs = some [.ptr id off]) (ho:st.h id = some (.box cs)) (hv:cs[off]? = some v) :
  EffOk P n st ⟨some d,g,.load none,xs⟩ { rt:=tmpsG g ++ tmpsX xs,wt:=some (d,v),rh:=[],wh:=[],nw:=[],rc:=[(id,off)] }:=by
 refine ⟨⟨0,rfl⟩,fun ops i o h1 h2=>⟨(fun x hx=>by cases hx),fun rr ds D m ok env heap a w Q K hS hrt hrh hrc hnw hK=>?_⟩⟩
 have hc:=hrc (id,off) (by simp)
 simp only [ho,cellAt,hv] at hc
 cases hob:heap id with
 | none=>rw [hob] at hc; cases hc
 | some ob =>
  cases ob <;> rw [hob] at hc <;> simp only at hc
  case box cs' =>
   have he:opEff n ⟨st.env,[(id,.box cs')],st.next⟩ ⟨some d,g,.load none,xs⟩ = some { rt:=tmpsG g ++ tmpsX xs,wt:=some (d,v),rh:=[id],wh:=[],nw:=[] }:=by
    unfold opEff
    simp only [hd,if_true,hg,hx]
    simp [core,St.h,List.lookup,peek,hc]
   refine (opEff_sound h1 h2 he).2 rr ds D m ok env heap a w Q K hS hrt (fun i hi=>?_) (fun x hx=>by cases hx) hnw hK
   simp only [List.mem_singleton] at hi
   subst hi
   rw [hob]
   simp [St.h,List.lookup]
  all_goals cases hc
theorem RD.loadc {id off:Nat} {cs:List PVal} (v:PVal) (hd:Nat.blt d n = true) (hg:guarded env g = some true) (hx:evalXs env xs = some [.ptr id off]) (ho:heap.lookup id = some (.box cs)) (hv:cs[off]? = some v)
  (k:RD P n dr K l ({ rt:=tmpsG g ++ tmpsX xs,wt:=some (d,.undef),rh:=[],wh:=[],nw:=[],rc:=[(id,off)] } :: racc) ⟨(d,v) :: env,heap,next⟩):RD P n dr K (⟨some d,g,.load none,xs⟩ :: l) racc ⟨env,heap,next⟩:=by
 have hd':dOk n (some d) = true:=by simpa [dOk,Nat.blt_eq] using hd
 refine RD.eff (loadc_ok hd' hg hx (st:=⟨env,heap,next⟩) ho hv) ?_
 simpa only [St.app,Eff.er,Option.map_some,envApp,happL,List.map_nil,List.length_nil,Nat.add_zero] using k
theorem nilc_ok {st:St} {d id off q:Nat} {xs:List AX} {g:Option (Nat × Bool)} {cs:List PVal} {v:PVal} (hd:dOk n (some d) = true) (hg:guarded st.env g = some true) (hx:evalXs st.env xs = some [.ptr id off]) (ho:st.h id = some (.box cs)) (hv:cs[q]? = some v) :
  EffOk P n st ⟨some d,g,.nilchk,xs⟩ { rt:=tmpsG g ++ tmpsX xs,wt:=some (d,.ptr id off),rh:=[],wh:=[],nw:=[],rc:=[(id,q)] }:=by
 refine ⟨⟨0,rfl⟩,fun ops i o h1 h2=>⟨(fun x hx=>by cases hx),fun rr ds D m ok env heap a w Q K hS hrt hrh hrc hnw hK=>?_⟩⟩
 have hc:=hrc (id,q) (by simp)
 simp only [ho,cellAt,hv] at hc
 cases hob:heap id with
 | none=>rw [hob] at hc; cases hc
 | some ob =>
  cases ob <;> rw [hob] at hc <;> simp only at hc
  case box cs' =>
   have he:opEff n ⟨st.env,[(id,.box cs')],st.next⟩ ⟨some d,g,.nilchk,xs⟩ = some { rt:=tmpsG g ++ tmpsX xs,wt:=some (d,.ptr id off),rh:=[id],wh:=[],nw:=[] }:=by
    unfold opEff
    simp only [hd,if_true,hg,hx]
    simp [core,coreNil,St.h,List.lookup]
   refine (opEff_sound h1 h2 he).2 rr ds D m ok env heap a w Q K hS hrt (fun i hi=>?_) (fun x hx=>by cases hx) hnw hK
   simp only [List.mem_singleton] at hi
   subst hi
   rw [hob]
   simp [St.h,List.lookup]
  all_goals cases hc
theorem RD.nilc {id off:Nat} {cs:List PVal} {v:PVal} (q:Nat) (hd:Nat.blt d n = true) (hg:guarded env g = some true) (hx:evalXs env xs = some [.ptr id off]) (ho:heap.lookup id = some (.box cs)) (hv:cs[q]? = some v)
  (k:RD P n dr K l ({ rt:=tmpsG g ++ tmpsX xs,wt:=some (d,.undef),rh:=[],wh:=[],nw:=[],rc:=[(id,q)] } :: racc) ⟨(d,.ptr id off) :: env,heap,next⟩):RD P n dr K (⟨some d,g,.nilchk,xs⟩ :: l) racc ⟨env,heap,next⟩:=by
 have hd':dOk n (some d) = true:=by simpa [dOk,Nat.blt_eq] using hd
 refine RD.eff (nilc_ok hd' hg hx (st:=⟨env,heap,next⟩) ho hv) ?_
 simpa only [St.app,Eff.er,Option.map_some,envApp,happL,List.map_nil,List.length_nil,Nat.add_zero] using k
theorem fldc_ok {st:St} {d id off q o2:Nat} {xs:List AX} {g:Option (Nat × Bool)} {cs:List PVal} {v:PVal} (hd:dOk n (some d) = true) (hg:guarded st.env g = some true) (hx:evalXs st.env xs = some [.ptr id off]) (ho:st.h id = some (.box cs)) (hv:cs[q]? = some v) :
  EffOk P n st ⟨some d,g,.fldA o2,xs⟩ { rt:=tmpsG g ++ tmpsX xs,wt:=some (d,.ptr id (off + o2)),rh:=[],wh:=[],nw:=[],rc:=[(id,q)] }:=by
 refine ⟨⟨0,rfl⟩,fun ops i o h1 h2=>⟨(fun x hx=>by cases hx),fun rr ds D m ok env heap a w Q K hS hrt hrh hrc hnw hK=>?_⟩⟩
 have hc:=hrc (id,q) (by simp)
 simp only [ho,cellAt,hv] at hc
 cases hob:heap id with
 | none=>rw [hob] at hc; cases hc
 | some ob =>
  cases ob <;> rw [hob] at hc <;> simp only at hc
  case box cs' =>
   have he:opEff n ⟨st.env,[(id,.box cs')],st.next⟩ ⟨some d,g,.fldA o2,xs⟩ = some { rt:=tmpsG g ++ tmpsX xs,wt:=some (d,.ptr id (off + o2)),rh:=[id],wh:=[],nw:=[] }:=by
    unfold opEff
    simp only [hd,if_true,hg,hx]
    simp [core,coreNil,St.h,List.lookup]
   refine (opEff_sound h1 h2 he).2 rr ds D m ok env heap a w Q K hS hrt (fun i hi=>?_) (fun x hx=>by cases hx) hnw hK
   simp only [List.mem_singleton] at hi
   subst hi
   rw [hob]
   simp [St.h,List.lookup]
  all_goals cases hc
theorem RD.fldc {id off o2:Nat} {cs:List PVal} {v:PVal} (q:Nat) (hd:Nat.blt d n = true) (hg:guarded env g = some true) (hx:evalXs env xs = some [.ptr id off]) (ho:heap.lookup id = some (.box cs)) (hv:cs[q]? = some v)
  (k:RD P n dr K l ({ rt:=tmpsG g ++ tmpsX xs,wt:=some (d,.undef),rh:=[],wh:=[],nw:=[],rc:=[(id,q)] } :: racc) ⟨(d,.ptr id (off + o2)) :: env,heap,next⟩):RD P n dr K (⟨some d,g,.fldA o2,xs⟩ :: l) racc ⟨env,heap,next⟩:=by
 have hd':dOk n (some d) = true:=by simpa [dOk,Nat.blt_eq] using hd
 refine RD.eff (fldc_ok hd' hg hx (st:=⟨env,heap,next⟩) ho hv) ?_
 simpa only [St.app,Eff.er,Option.map_some,envApp,happL,List.map_nil,List.length_nil,Nat.add_zero] using k
theorem Conv.adoptB {id j sz:Nat} {ty:TypeId} {cs:List PVal} (ho:heap.lookup id = some (.box cs)) (hj:cs[j]? = some .nils) (hsz:0 < sz):Conv k0 ⟨env,heap,next⟩ ⟨env,setH id (.box (cs.set j (.own next sz 0 0))) heap ++ [(next,.row sz ty [])],next + 1⟩:=by
 intro n ds m ok a w hk hS
 have hk:k0 ≤ next:=hk
 have hS:Sim n ds (· < next) m ok (fun t=>env.lookup t) (fun i=>heap.lookup i) a w:=hS
 have hmn:m next = none:=by
  cases hm:m next with
  | none=>rfl
  | some B=>exact absurd (hS.hp.dom next B hm) (Nat.lt_irrefl _)
 let m':AId → Option Blk:=fun id=>if id = next then some .nil else m id
 have hm' : ∀ id,id < next → m' id = m id:=fun id hid=>if_neg (Nat.ne_of_lt hid)
 have hat : ∀ id b t,m' id = some (.at b t) → m id = some (.at b t):=fun id b t he=>by
  by_cases hid:id = next
  ·subst hid; simp [m'] at he
  ·simpa [m',hid] using he
 have hst:Step m w m' w:=⟨rfl,Tp.refl w,rfl,Nat.le_refl _,fun _ _ _=>rfl,fun id b t he=>.inl ⟨id,t,hat id b t he⟩⟩
 have hD : ∀ id,id < next → id < next + 1:=fun id hid=>by omega
 have hmm : ∀ id,id < next → m' id = m id ∨ m' id = none:=fun id hid=>.inl (hm' id hid)
 refine ⟨m',⟨⟨fun i o hi=>?_,fun id B hB=>?_,fun id id' b t t' h1 h2=>hS.hp.inj id id' b t t' (hat _ _ _ h1) (hat _ _ _ h2),fun id b t he=>hS.hp.lt id b t (hat _ _ _ he),fun id b t he=>hS.hp.okm id b t (hat _ _ _ he),hS.hp.fresh,fun x hx=>⟨fun id t he=>(hS.hp.glob x hx).1 id t (hat _ _ _ he),(hS.hp.glob x hx).2⟩⟩,fun t' p hp=>?_,hS.df,hS.sz⟩,hst,fun id hid=>.inl (hm' id (Nat.lt_of_lt_of_le hid hk)),Nat.le_succ_of_le hk⟩
 ·rcases lookup_snoc (show (setH id (.box (cs.set j (.own next sz 0 0))) heap ++ [(next,AObj.row sz ty [])]).lookup i = some o from hi) with h1 | ⟨h0,h1,h2⟩
  ·rw [lookup_setH] at h1
   split at h1
   ·rename_i e
    subst e
    injection h1 with h1
    subst h1
    obtain ⟨B,hB,hrep⟩:=hS.hp.obj i _ ho
    have hlt:=hS.hp.dom i B hB
    refine ⟨B,by rw [hm' i hlt]; exact hB,?_⟩
    cases B with
    | nil=>exact hrep.elim
    | «at» b t =>
     obtain ⟨vs,ty',h1,h2,h3⟩:=hrep
     refine ⟨vs,ty',h1,by simpa using h2,fun q p hq=>?_⟩
     by_cases hqj:q = j
     ·subst hqj
      have hlt':q < cs.length:=(List.getElem?_eq_some_iff.1 hj).1
      have:p = .own next sz 0 0:=by simpa [List.getElem?_set,hlt'] using hq.symm
      subst this
      obtain ⟨v,b1,b2,b3⟩:=h3 q _ hj
      refine ⟨v,b1,b2,?_⟩
      cases b3
      refine .own (Nat.lt_succ_self _) rfl fun B hB=>?_
      have:B = .nil:=by simpa [m'] using hB.symm
      subst this
      exact ⟨⟨_,rfl⟩,rfl,rfl⟩
     ·have hq':cs[q]? = some p:=by
       rw [List.getElem?_set] at hq
       simpa [show ¬ j = q from fun e=>hqj e.symm] using hq
      obtain ⟨v,b1,b2,b3⟩:=h3 q p hq'
      exact ⟨v,b1,b2,b3.step hst hD hmm⟩
   ·obtain ⟨B,hB,hrep⟩:=hS.hp.obj i o h1
    have hlt:=hS.hp.dom i B hB
    exact ⟨B,by rw [hm' i hlt]; exact hB,hrep.step hst (fun _ _ _=>rfl) hD hmm⟩
  ·subst h1 h2
   exact ⟨.nil,by simp [m'],rfl,hsz⟩
 ·by_cases hid:id = next
  ·exact hid ▸ Nat.lt_succ_self next
  ·have:m id = some B:=by simpa [m',hid] using hB
   exact hD _ (hS.hp.dom id B this)
 ·obtain ⟨v,hv,hrep⟩:=hS.tmp t' p hp
  exact ⟨v,hv,hrep.step hst hD hmm⟩
theorem WK.adoptB {id j sz:Nat} {ty:TypeId} {cs:List PVal} (ho:heap.lookup id = some (.box cs)) (hj:cs[j]? = some .nils) (hsz:0 < sz) (hr:r ≠ []) (hh:setH id (.box (cs.set j (.own next sz 0 0))) heap ++ [(next,.row sz ty [])] = zx)
  (k:WK P n k0 r Q ⟨env,zx,next + 1⟩):WK P n k0 r Q ⟨env,heap,next⟩:=by
 subst hh
 exact WK.conv (Conv.adoptB ho hj hsz) k hr
end
theorem viewO_box {sl:List Nat} {bs:List (AId × AObj)} {cs l:List PVal} (h:viewP.go sl bs cs = some l):viewO sl bs (.box cs) = some (.box l):=by
 simp only [viewO,h]
section
variable {P:Program} {n k0:Nat} {Q:Exit → St → Prop} {st:St} {r:List AC}
end
section
variable {h:Heap} {nx id sz j off o':Nat} {ty:TypeId} {α:Type} {c:α → List PVal} {L:List α} {x x':α} {v v':PVal}
theorem core_idxoT {m:Nat} {ik:IntKind} {i:Int} (ho:h id = some (.row sz ty (L.map c))) (hi:i = (j:Int)) (hj:j < m) (hm:m ≤ L.length):core (.idxA sz) [.own id sz 0 m,.int ik i] h nx = some { v:=.eptr id sz j 0,rh:=[id] }:=by
 subst hi
 simp only [core,ho]
 rw [if_pos ⟨trivial,trivial,by rw [List.length_map]; omega,by omega,by omega⟩]
 simp
theorem core_fldT {o:Nat} (ho:h id = some (.row sz ty (L.map c))) (hj:j < L.length) (hv:o + off = o'):core (.fldA off) [.eptr id sz j o] h nx = some { v:=.eptr id sz j o',rh:=[id] }:=by
 subst hv
 simp only [core,ho]
 rw [if_pos ⟨trivial,by rw [List.length_map]; exact hj⟩]
theorem core_nilT {o:Nat} (ho:h id = some (.row sz ty (L.map c))) (hj:j < L.length):core .nilchk [.eptr id sz j o] h nx = some { v:=.eptr id sz j o,rh:=[id] }:=by
 simp only [core,coreNil,ho]
 rw [if_pos ⟨trivial,by rw [List.length_map]; exact hj⟩]
theorem core_loaT {kd:Option Nat} (ho:h id = some (.row sz ty (L.map c))) (he:L[j]? = some x) (hv:peek kd (c x) off = some v'):core (.load kd) [.eptr id sz j off] h nx = some { v:=v',rh:=[id] }:=by
 have hj:=(List.getElem?_eq_some_iff.1 he).1
 have hg':(L.map c).getD j [] = c x:=by rw [List.getD_eq_getElem?_getD,List.getElem?_map,he]; rfl
 simp only [core,ho]
 rw [if_pos ⟨trivial,by rw [List.length_map]; exact hj⟩,hg',hv]
 rfl
theorem core_stoT {nn:Nat} {vs:List PVal} (ho:h id = some (.row sz ty (L.map c))) (he:L[j]? = some x) (hv:v.cells = some vs) (hn:vs.length = nn) (hoff:Nat.ble (off + nn) sz = true) (hc:v.closed = true) (hs:splice (c x) off vs = c x') :
  core (.store nn) [.eptr id sz j off,v] h nx = some { v:=.hole,rh:=[id],wh:=[(id,some (.row sz ty ((L.set j x').map c)))] }:=by
 have hj:=(List.getElem?_eq_some_iff.1 he).1
 have hg':(L.map c).getD j [] = c x:=by rw [List.getD_eq_getElem?_getD,List.getElem?_map,he]; rfl
 simp only [core,ho,hv]
 rw [if_pos ⟨trivial,by rw [List.length_map]; exact hj,hn,Nat.le_of_ble_eq_true hoff,hc⟩,hg',hs,List.map_set]
end
def okB (B:List Nat):Nat → List (List Nat) → Bool
 | _,[]=>true
 | j,ds :: r=>decide (B.getD j 0 = ds.foldl (fun s d=>s ||| (1 <<< d) ||| B.getD d 0) 0) && (ds.all (fun d=>decide (d < j)) && okB B (j + 1) r)
def drawOkB (dirs:List (List Nat)) (B:List Nat) (es:List Eff):Bool :=
 rcOk es && (List.range es.length).all fun j=>(dirs.getD j []).all (fun d=>decide (d < j)) &&
  (List.range j).all fun i=>(B.getD j 0).testBit i || match es[i]?,es[j]? with
   | some e,some f=>indep e f
   | _,_=>true
theorem foldl_bit (B:List Nat) (i:Nat) : ∀ (ds:List Nat) (s:Nat),(ds.foldl (fun s d=>s ||| (1 <<< d) ||| B.getD d 0) s).testBit i = true → s.testBit i = true ∨ ∃ d ∈ ds,i = d ∨ (B.getD d 0).testBit i = true
 | [],s,h=>.inl h
 | d :: ds,s,h=>by
  simp only [List.foldl_cons] at h
  rcases foldl_bit B i ds _ h with h1 | ⟨x,hx,h1⟩
  ·simp only [Nat.testBit_or,Bool.or_eq_true] at h1
   rcases h1 with (h1 | h1) | h1
   ·exact .inl h1
   ·refine .inr ⟨d,List.mem_cons_self,.inl ?_⟩
    rw [Nat.one_shiftLeft,Nat.testBit_two_pow] at h1
    exact (of_decide_eq_true h1).symm
   ·exact .inr ⟨d,List.mem_cons_self,.inr h1⟩
  ·exact .inr ⟨x,List.mem_cons_of_mem _ hx,h1⟩
theorem befores_bits (B:List Nat) : ∀ (r acc:List (List Nat)),okB B acc.length r = true → (∀ k,k < acc.length → ∀ i,(B.getD k 0).testBit i = true → i ∈ acc.getD k []) →
  ∀ k,k < acc.length + r.length → ∀ i,(B.getD k 0).testBit i = true → i ∈ (befores r acc).getD k []
 | [],acc,_,h,k,hk,i,hi=>h k (by simpa using hk) i hi
 | ds :: r,acc,hok,h,k,hk,i,hi=>by
  simp only [okB,Bool.and_eq_true,decide_eq_true_eq] at hok
  obtain ⟨h1,h2,h3⟩:=hok
  unfold befores
  refine befores_bits B r (acc ++ [ds ++ ds.flatMap fun d=>acc.getD d []]) (by simpa using h3) (fun k hk i hi=>?_) k (by simp only [List.length_append,List.length_cons,List.length_nil] at hk ⊢; omega) i hi
  by_cases hlt:k < acc.length
  ·have:=h k hlt i hi
   rw [List.getD_eq_getElem?_getD,List.getElem?_append_left hlt,← List.getD_eq_getElem?_getD]
   exact this
  ·have e:k = acc.length:=by simp at hk; omega
   subst e
   rw [h1] at hi
   rw [List.getD_eq_getElem?_getD,List.getElem?_append_right (Nat.le_refl _),Nat.sub_self]
   simp only [List.getElem?_cons_zero,Option.getD_some,List.mem_append,List.mem_flatMap]
   rcases foldl_bit B i ds 0 hi with h4 | ⟨d,hd,h4⟩
   ·simp at h4
   ·rcases h4 with rfl | h4
    ·exact .inl hd
    ·have hdl:d < acc.length:=of_decide_eq_true (List.all_eq_true.1 h2 d hd)
     exact .inr ⟨d,hd,h d hdl i h4⟩
theorem drawOk_of {dirs:List (List Nat)} {B:List Nat} {es:List Eff} (hl:es.length = dirs.length) (h1:okB B 0 dirs = true) (h2:drawOkB dirs B es = true):drawOk dirs es = true:=by
 have hb:=befores_bits B dirs [] h1 (fun k hk=>absurd hk (Nat.not_lt_zero _))
 have h0:rcOk es = true:=((Bool.and_eq_true _ _).mp h2).1
 replace h2:=((Bool.and_eq_true _ _).mp h2).2
 unfold drawOk
 rw [h0,Bool.and_true]
 simp only [drawOk0,List.all_eq_true,List.mem_range,Bool.and_eq_true,Bool.or_eq_true,decide_eq_true_eq] at h2 ⊢
 intro j hj
 obtain ⟨h3,h4⟩:=h2 j hj
 refine ⟨h3,fun i hi=>?_⟩
 rcases h4 i hi with h5 | h5
 ·left
  rw [List.contains_iff_mem]
  exact hb j (by simp; omega) i h5
 ·exact .inr h5
theorem RD.doneB {P:Program} {n:Nat} {dr:List (List Nat)} {K:St → Prop} {racc:List Eff} {st:St} (B:List Nat) (hl:racc.reverse.length = dr.length) (h1:okB B 0 dr = true) (h2:drawOkB dr B racc.reverse = true) (k:K st):RD P n dr K [] racc st :=
 RD.done (drawOk_of hl h1 h2) k
section
variable {P:Program} {n k0:Nat} {K:St → Prop} {l:List AO} {env:List (Nat × PVal)} {heap zx:List (AId × AObj)} {next zy d:Nat} {op:AOp} {x:AX} {xs:List AX} {p v:PVal} {ps:List PVal} {rh:List AId} {wh:List (AId × Option AObj)} {nw:List AId} {dr:List (List Nat)} {racc:List Eff} {g:Option (Nat × Bool)} {Q:Exit → St → Prop} {r:List AC}
theorem evalXs_one (h:evalX env x = some p):evalXs env [x] = some [p]:=by simp only [evalXs,h]
theorem GX.m (hx:evalX env x = some p) (k:GX P n K l ⟨(d,p) :: env,heap,next⟩) (hd:Nat.blt d n = true:=by rfl) (hg:guarded env g = some true:=by rfl):GX P n K (⟨some d,g,.mov,[x]⟩ :: l) ⟨env,heap,next⟩:=GX.pure hd hg (evalXs_one hx) rfl rfl k
theorem RD.m (hx:evalX env x = some p) (k:RD P n dr K l ({ rt:=tmpsG g ++ tmpsX [x],wt:=some (d,.undef),rh:=[],wh:=[],nw:=[] } :: racc) ⟨(d,p) :: env,heap,next⟩) (hd:Nat.blt d n = true:=by rfl) (hg:guarded env g = some true:=by rfl) :
  RD P n dr K (⟨some d,g,.mov,[x]⟩ :: l) racc ⟨env,heap,next⟩:=RD.pure hd hg (evalXs_one hx) rfl rfl k
theorem GX.q (v':PVal) (k:GX P n K l ⟨(d,v') :: env,heap,next⟩) (hd:Nat.blt d n = true:=by rfl) (hg:guarded env g = some true:=by rfl) (hx:evalXs env xs = some ps:=by rfl) (hc:core op ps (fun id=>heap.lookup id) next = some ⟨v,rh,[],[]⟩:=by rfl) (hv:v = v':=by rfl) :
  GX P n K (⟨some d,g,op,xs⟩ :: l) ⟨env,heap,next⟩:=GX.pure hd hg hx hc hv k
theorem RD.q (v':PVal) (k:RD P n dr K l ({ rt:=tmpsG g ++ tmpsX xs,wt:=some (d,.undef),rh:=rh,wh:=[],nw:=[] } :: racc) ⟨(d,v') :: env,heap,next⟩) (hd:Nat.blt d n = true:=by rfl) (hg:guarded env g = some true:=by rfl) (hx:evalXs env xs = some ps:=by rfl)
  (hc:core op ps (fun id=>heap.lookup id) next = some ⟨v,rh,[],[]⟩:=by rfl) (hv:v = v':=by rfl):RD P n dr K (⟨some d,g,op,xs⟩ :: l) racc ⟨env,heap,next⟩:=RD.pure hd hg hx hc hv k
theorem WK.sr {ops:List AO} {b:AC} (qv:P.follows .mixedOrders = true) (h:GX P n (WK P n k0 (b :: r) Q) ops ⟨env,heap,next⟩):WK P n k0 (.seq (.reg [] ops) b :: r) Q ⟨env,heap,next⟩:=WK.seq (WK.regx qv h)
end
end Go.Proofs.YtakallenldpkiaaGreatDoor.Abs
