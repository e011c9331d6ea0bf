/- The steps of a region whose order is drawn. Generic over any program. -/
import Derived.Test.YtakallenldpkiaaGreatDoorA19
set_option linter.unusedVariables false
set_option linter.unusedSimpArgs false
set_option linter.unusedSectionVars false
namespace Go.Proofs.YtakallenldpkiaaGreatDoor.Abs
open Go
variable [DqC]
def Eff.er (e:Eff):Eff:={ rt:=e.rt,wt:=e.wt.map fun x=>(x.1,.undef),rh:=e.rh,wh:=e.wh.map fun x=>(x.1,none),nw:=[],rc:=e.rc,kc:=e.kc }
theorem indep_er (e f:Eff):indep e.er f.er = indep e f:=by
 obtain ⟨a1,a2,a3,a4,a5,a6,a7⟩:=e
 obtain ⟨b1,b2,b3,b4,b5,b6,b7⟩:=f
 unfold indep Eff.er
 cases a2 with
 | none =>
  cases b2 with
  | none=>simp [List.all_map,List.map_map,Function.comp_def]
  | some y=>simp [List.all_map,List.map_map,Function.comp_def]
 | some x =>
  cases b2 with
  | none=>simp [List.all_map,List.map_map,Function.comp_def]
  | some y=>simp [List.all_map,List.map_map,Function.comp_def]
theorem rcOk_er (es:List Eff):rcOk (es.map Eff.er) = rcOk es:=by
 have hw : ∀ f:Eff,f.er.wh.map (·.1) = f.wh.map (·.1):=fun f=>by simp only [Eff.er,List.map_map,Function.comp_def]
 unfold rcOk
 rw [List.all_map]
 congr 1
 funext e
 change e.rc.all _ = e.rc.all _
 congr 1
 funext x
 rw [List.all_map]
 congr 1
 funext f
 change (!(f.er.wh.map (·.1)).contains x.1 || f.kc.contains x) = _
 rw [hw]
theorem drawOk0_er (dirs:List (List Nat)) (es:List Eff):drawOk0 dirs (es.map Eff.er) = drawOk0 dirs es:=by
 unfold drawOk0
 rw [List.length_map]
 congr 1
 funext j
 congr 1
 congr 1
 funext i
 congr 1
 rw [List.getElem?_map,List.getElem?_map]
 cases es[i]? with
 | none=>rfl
 | some e =>
  cases es[j]? with
  | none=>rfl
  | some f=>exact indep_er e f
theorem drawOk_er (dirs:List (List Nat)) (es:List Eff):drawOk dirs (es.map Eff.er) = drawOk dirs es:=by
 unfold drawOk
 rw [drawOk0_er,rcOk_er]
def RD (P:Program) (n:Nat) (draw:List (List Nat)) (K:St → Prop) (l:List AO) (racc:List Eff) (st:St):Prop:=∀ acc,acc.map Eff.er = racc.reverse → RG P n draw K l acc st
section
variable {P:Program} {n k0:Nat} {Q:Exit → St → Prop} {st:St} {r:List AC}
theorem WK.drawn {dr:List (List Nat)} {l:List AO} (hP:P.follows .mixedOrders = true) (h:RD P n dr (fun s=>WK P n k0 r Q s) l [] st):WK P n k0 (.reg dr l :: r) Q st:=WK.draw hP (h [] rfl)
variable {dr:List (List Nat)} {K:St → Prop} {l:List AO} {env:List (Nat × PVal)} {heap zx:List (AId × AObj)} {next zy d:Nat} {op:AOp} {xs:List AX} {ps qs rest:List PVal} {v v':PVal} {rh:List AId} {wh:List (AId × Option AObj)} {nw:List AId} {racc:List Eff} {e:Eff} {ao:AO}
theorem RD.eff (he:EffOk P n st ao e) (k:RD P n dr K l (e.er :: racc) (st.app e)):RD P n dr K (ao :: l) racc st:=fun acc ha=>RG.eff he (k (acc ++ [e]) (by simp [ha]))
theorem RD.done (hd:drawOk dr racc.reverse = true) (k:K st):RD P n dr K [] racc st:=fun acc ha=>RG.done (.inr (by rw [← drawOk_er,ha]; exact hd)) k
theorem RD.step {g:Option (Nat × Bool)} (hd:Nat.blt d n = true) (hg:guarded env g = some true) (hx:evalXs env xs = some ps) (hc:core op ps (fun id=>heap.lookup id) next = some ⟨v,rh,wh,nw⟩) (hv:v = v') (hh:happL wh heap = zx) (hn:next + nw.length = zy)
  (k:RD P n dr K l ({ rt:=tmpsG g ++ tmpsX xs,wt:=some (d,.undef),rh:=rh,wh:=wh.map fun x=>(x.1,none),nw:=[] } :: racc) ⟨(d,v') :: env,zx,zy⟩):RD P n dr K (⟨some d,g,op,xs⟩ :: l) racc ⟨env,heap,next⟩:=by
 subst hv hh hn
 have hd':dOk n (some d) = true:=by simpa [dOk,Nat.blt_eq] using hd
 have hc':core op ps (St.h ⟨env,heap,next⟩) next = some ⟨v,rh,wh,nw⟩:=hc
 refine RD.eff (e:={ rt:=tmpsG g ++ tmpsX xs,wt:=some (d,v),rh,wh,nw }) (opEff_ok ?_) k
 unfold opEff
 simp only [hd',if_true,hg,hx,hc',Option.map_some]
theorem RD.step0 {g:Option (Nat × Bool)} (hg:guarded env g = some true) (hx:evalXs env xs = some ps) (hc:core op ps (fun id=>heap.lookup id) next = some ⟨v,rh,wh,nw⟩) (hh:happL wh heap = zx) (hn:next + nw.length = zy)
  (k:RD P n dr K l ({ rt:=tmpsG g ++ tmpsX xs,wt:=none,rh:=rh,wh:=wh.map fun x=>(x.1,none),nw:=[] } :: racc) ⟨env,zx,zy⟩):RD P n dr K (⟨none,g,op,xs⟩ :: l) racc ⟨env,heap,next⟩:=by
 subst hh hn
 have hc':core op ps (St.h ⟨env,heap,next⟩) next = some ⟨v,rh,wh,nw⟩:=hc
 refine RD.eff (e:={ rt:=tmpsG g ++ tmpsX xs,wt:=none,rh,wh,nw }) (opEff_ok ?_) k
 unfold opEff
 simp only [dOk,if_true,hg,hx,hc',Option.map_some,Option.map_none]
theorem RD.pure {g:Option (Nat × Bool)} (hd:Nat.blt d n = true) (hg:guarded env g = some true) (hx:evalXs env xs = some ps) (hc:core op ps (fun id=>heap.lookup id) next = some ⟨v,rh,[],[]⟩) (hv:v = v')
  (k:RD P n dr K l ({ rt:=tmpsG g ++ tmpsX xs,wt:=some (d,.undef),rh:=rh,wh:=[],nw:=[] } :: racc) ⟨(d,v') :: env,heap,next⟩):RD P n dr K (⟨some d,g,op,xs⟩ :: l) racc ⟨env,heap,next⟩:=RD.step hd hg hx hc hv rfl rfl k
theorem RD.skip {g:Option (Nat × Bool)} (hd:Nat.blt d n = true) (hg:guarded env g = some false) (k:RD P n dr K l ({ rt:=tmpsG g,wt:=some (d,.undef),rh:=[],wh:=[],nw:=[] } :: racc) ⟨(d,.hole) :: env,heap,next⟩):RD P n dr K (⟨some d,g,op,xs⟩ :: l) racc ⟨env,heap,next⟩:=by
 have hd':dOk n (some d) = true:=by simpa [dOk,Nat.blt_eq] using hd
 refine RD.eff (e:={ rt:=tmpsG g,wt:=some (d,.hole),rh:=[],wh:=[],nw:=[] }) (opEff_ok ?_) k
 unfold opEff
 simp only [hd',if_true,hg,Option.map_some]
theorem RD.idx {g:Option (Nat × Bool)} {sz:Nat} {es:List (List PVal)} {ik:IntKind} {i:Int} {e:List PVal} (hd:Nat.blt d n = true) (hg:guarded env g = some true) (hx:evalXs env xs = some [.ro sz es,.int ik i]) (hi:0 ≤ i) (he:es[i.toNat]? = some e)
  (k:RD P n dr K l ({ rt:=tmpsG g ++ tmpsX xs,wt:=some (d,.undef),rh:=[],wh:=[],nw:=[] } :: racc) ⟨(d,.rptr e) :: env,heap,next⟩):RD P n dr K (⟨some d,g,.idxA sz,xs⟩ :: l) racc ⟨env,heap,next⟩:=by
 have hlt:=(List.getElem?_eq_some_iff.1 he).1
 refine RD.step (v:=.rptr (es.getD i.toNat [])) (rh:=[]) (wh:=[]) (nw:=[]) hd hg hx ?_ ?_ rfl rfl k
 ·simp only [core]
  rw [if_pos ⟨True.intro,hi,by omega⟩]
 ·rw [List.getD_eq_getElem?_getD,he]; rfl
theorem RD.app {g:Option (Nat × Bool)} {id sz by_:Nat} {ty:TypeId} {m:Nat} {es es2:List (List PVal)} {x:PVal} {rh2:List AId} (hd:Nat.blt d n = true) (hg:guarded env g = some true) (hx:evalXs env xs = some [.own id sz 0 m,x]) (ho:heap.lookup id = some (.row sz ty es)) (hm:m = es.length)
  (he:elems (fun id=>heap.lookup id) x = some (sz,es2,rh2)) (hb:(es.length + es2.length) * by_ ≤ 140737488355328) (hl:es.length + es2.length ≤ maxLen) (hid:rh2.contains id = false) (hh:happL [(next,some (.row sz ty (es ++ es2))),(id,none)] heap = zx) (hn:next + 1 = zy)
  (k:RD P n dr K l ({ rt:=tmpsG g ++ tmpsX xs,wt:=some (d,.undef),rh:=id :: rh2,wh:=[(next,none),(id,none)],nw:=[] } :: racc) ⟨(d,.own next sz 0 (es.length + es2.length)) :: env,zx,zy⟩):RD P n dr K (⟨some d,g,.append sz ty by_,xs⟩ :: l) racc ⟨env,heap,next⟩:=by
 refine RD.step (rh:=id :: rh2) (wh:=[(next,some (.row sz ty (es ++ es2))),(id,none)]) (nw:=[next]) hd hg hx ?_ rfl hh hn k
 simp only [core,he,ho]
 rw [if_pos]
 refine ⟨trivial,trivial,trivial,trivial,trivial,hm,hb,hl,?_⟩
 intro hmem
 rw [List.contains_eq_mem] at hid
 simp [hmem] at hid
theorem RD.callp {g:Option (Nat × Bool)} {f:FuncId} {r:PVal} (hd:Nat.blt d n = true) (hg:guarded env g = some true) (hx:evalXs env xs = some ps) (hF:FnOk P f ps [] 0 r [] 0) (hp:PVal.closed.go ps = true) (hr:r.closed = true)
  (k:RD P n dr K l ({ rt:=tmpsG g ++ tmpsX xs,wt:=some (d,.undef),rh:=[],wh:=[],nw:=[] } :: racc) ⟨(d,r) :: env,heap,next⟩):RD P n dr K (⟨some d,g,.call f,xs⟩ :: l) racc ⟨env,heap,next⟩:=by
 have hd':dOk n (some d) = true:=by simpa [dOk,Nat.blt_eq] using hd
 refine RD.eff (call_ok (st:=⟨env,heap,next⟩) (ao:=⟨some d,g,.call f,xs⟩) rfl hd' hg hx hF (sl:=[]) (bi:=[]) (viewPs_closed _ _ hp) rfl rfl (.inl rfl)) ?_
 simp only [St.app,Eff.er,callEff,Option.map_some,envApp,callWh,List.range_zero,List.map_nil,happL,List.append_nil]
 rw [renP_closed _ hr]
 exact k
theorem RD.callb {g:Option (Nat × Bool)} {f:FuncId} {r r':PVal} {h1:List (AId × AObj)} {k1:Nat} (bi:List Nat) (hd:Nat.blt d n = true) (hg:guarded env g = some true) (hx:evalXs env xs = some ps) (hv:viewP.go [] (pickH heap bi) ps = some qs) (hF:FnOk P f qs [] 0 r h1 k1)
  (hfl:bi = [] ∨ FlatR r h1) (hr:renP (tau [] next) r = r') (hh:happL (callWh [] next h1 k1) heap = zx) (hn:next + k1 = zy)
  (k:RD P n dr K l ({ rt:=tmpsG g ++ tmpsX xs,wt:=some (d,.undef),rh:=bi,wh:=(callWh [] next h1 k1).map fun x=>(x.1,none),nw:=[] } :: racc) ⟨(d,r') :: env,zx,zy⟩):RD P n dr K (⟨some d,g,.call f,xs⟩ :: l) racc ⟨env,heap,next⟩:=by
 subst hr hh hn
 have hd':dOk n (some d) = true:=by simpa [dOk,Nat.blt_eq] using hd
 refine RD.eff (call_ok (st:=⟨env,heap,next⟩) (ao:=⟨some d,g,.call f,xs⟩) rfl hd' hg hx hF (sl:=[]) (bi:=bi) hv rfl rfl hfl) ?_
 simpa only [St.app,Eff.er,callEff,Option.map_some,envApp,List.length_range',List.length_nil,Nat.sub_zero,List.nil_append] using k
theorem GO.callbp {g:Option (Nat × Bool)} {f:FuncId} {r:PVal} (bi:List Nat) (hd:Nat.blt d n = true) (hg:guarded env g = some true) (hx:evalXs env xs = some ps) (hv:viewP.go [] (pickH heap bi) ps = some qs) (hF:FnOk P f qs [] 0 r [] 0)
  (hfl:r.flat = true) (hr:r.closed = true) (k:GO P n K l ⟨(d,r) :: env,heap,next⟩):GO P n K (⟨some d,g,.call f,xs⟩ :: l) ⟨env,heap,next⟩ :=
 GO.callb bi hd hg hx hv hF ⟨hfl,fun i o h=>by simp at h⟩ (renP_closed _ hr) rfl rfl k
theorem RD.callbp {g:Option (Nat × Bool)} {f:FuncId} {r:PVal} (bi:List Nat) (hd:Nat.blt d n = true) (hg:guarded env g = some true) (hx:evalXs env xs = some ps) (hv:viewP.go [] (pickH heap bi) ps = some qs) (hF:FnOk P f qs [] 0 r [] 0)
  (hfl:r.flat = true) (hr:r.closed = true) (k:RD P n dr K l ({ rt:=tmpsG g ++ tmpsX xs,wt:=some (d,.undef),rh:=bi,wh:=[],nw:=[] } :: racc) ⟨(d,r) :: env,heap,next⟩):RD P n dr K (⟨some d,g,.call f,xs⟩ :: l) racc ⟨env,heap,next⟩ :=
 RD.callb bi hd hg hx hv hF (.inr ⟨hfl,fun i o h=>by simp at h⟩) (renP_closed _ hr) rfl rfl k
theorem view_row {sl:List Nat} {id sz m:Nat} {ty:TypeId} {es:List (List PVal)} {bs:List (AId × AObj)} (hp:posAt sl id 0 = none) (ho:bs.lookup id = some (.row sz ty es)) (hm:m = es.length):viewP sl bs (.own id sz 0 m) = some (.ro sz es):=by
 simp only [viewP,hp,ho]
 rw [if_pos ⟨trivial,by omega⟩,List.drop_zero,List.take_of_length_le (by omega)]
end
end Go.Proofs.YtakallenldpkiaaGreatDoor.Abs
