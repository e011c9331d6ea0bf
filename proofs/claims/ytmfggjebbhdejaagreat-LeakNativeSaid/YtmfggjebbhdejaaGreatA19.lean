/- The abstract machine's steps, each as one rule whose premises are closed by 'rfl' where the state is written out. Generic over any program. -/
import Derived.Test.YtmfggjebbhdejaaGreatA18
set_option linter.unusedVariables false
set_option linter.unusedSimpArgs false
namespace Go.Proofs.YtmfggjebbhdejaaGreat.Abs
open Go
theorem renP_closed (τ:Nat → Nat) {p:PVal} (h:p.closed = true):renP τ p = p:=by
 have key : ∀ (n:Nat) (p:PVal),SizeOf.sizeOf p < n → p.closed = true → renP τ p = p:=by
  intro n
  induction n with
  | zero=>intro p h; omega
  | succ n ih =>
   have hl : ∀ (l:List PVal),SizeOf.sizeOf l < n + 1 → PVal.closed.go l = true → renP.go τ l = l:=by
    intro l
    induction l with
    | nil=>intro _ _; rfl
    | cons x r ihl =>
     intro hs hc
     simp only [PVal.closed.go,Bool.and_eq_true] at hc
     simp only [List.cons.sizeOf_spec] at hs
     simp only [renP.go]
     rw [ih x (by omega) hc.1,ihl (by omega) hc.2]
   intro p hs hc
   cases p <;> simp only [renP]
   case agg cs=>rw [hl cs (by simp at hs; omega) (by simpa [PVal.closed] using hc)]
   case tup cs=>rw [hl cs (by simp at hs; omega) (by simpa [PVal.closed] using hc)]
   case fn f a b =>
    simp only [PVal.closed,Bool.and_eq_true] at hc
    rw [hl a (by simp at hs; omega) hc.1,hl b (by simp at hs; omega) hc.2]
   case iface t v=>rw [ih v (by simp at hs; omega) (by simpa [PVal.closed] using hc)]
   all_goals simp [PVal.closed] at hc
 exact key (SizeOf.sizeOf p + 1) p (Nat.lt_succ_self _) h
theorem viewP_closed (sl:List Nat) (bs:List (AId × AObj)) {p:PVal} (h:p.closed = true):viewP sl bs p = some p:=by
 have key : ∀ (n:Nat) (p:PVal),SizeOf.sizeOf p < n → p.closed = true → viewP sl bs p = some p:=by
  intro n
  induction n with
  | zero=>intro p h; omega
  | succ n ih =>
   have hl : ∀ (l:List PVal),SizeOf.sizeOf l < n + 1 → PVal.closed.go l = true → viewP.go sl bs l = some l:=by
    intro l
    induction l with
    | nil=>intro _ _; rfl
    | cons x r ihl =>
     intro hs hc
     simp only [PVal.closed.go,Bool.and_eq_true] at hc
     simp only [List.cons.sizeOf_spec] at hs
     simp only [viewP.go]
     rw [ih x (by omega) hc.1,ihl (by omega) hc.2]
   intro p hs hc
   cases p <;> simp only [viewP]
   case agg cs=>rw [hl cs (by simp at hs; omega) (by simpa [PVal.closed] using hc)]
   case tup cs=>rw [hl cs (by simp at hs; omega) (by simpa [PVal.closed] using hc)]
   case fn f a b =>
    simp only [PVal.closed,Bool.and_eq_true] at hc
    rw [hl a (by simp at hs; omega) hc.1,hl b (by simp at hs; omega) hc.2]
   case iface t v=>rw [ih v (by simp at hs; omega) (by simpa [PVal.closed] using hc)]
   all_goals simp [PVal.closed] at hc
 exact key (SizeOf.sizeOf p + 1) p (Nat.lt_succ_self _) h
theorem viewPs_closed (sl:List Nat) (bs:List (AId × AObj)) : ∀ {l:List PVal},PVal.closed.go l = true → viewP.go sl bs l = some l
 | [],_=>rfl
 | p :: r,h=>by
  simp only [PVal.closed.go,Bool.and_eq_true] at h
  simp only [viewP.go,viewP_closed sl bs h.1,viewPs_closed sl bs h.2]
section
variable {P:Program} {n:Nat} {K:St → Prop} {l:List AO} {env:List (Nat × PVal)} {heap zj:List (AId × AObj)} {next zk d:Nat} {op:AOp} {xs:List AX} {ps rest:List PVal} {v v':PVal} {rh:List AId} {wh:List (AId × Option AObj)} {nw:List AId}
def hlk (heap:List (AId × AObj)):Heap:=fun id=>heap.lookup id
theorem GO.step {g:Option (Nat × Bool)} (hd:Nat.blt d n = true) (hg:guarded env g = some true) (hx:evalXs env xs = some ps) (hc:core op ps (fun id=>heap.lookup id) next = some ⟨v,rh,wh,nw⟩) (hv:v = v') (hh:happL wh heap = zj) (hn:next + nw.length = zk)
  (k:GO P n K l ⟨(d,v') :: env,zj,zk⟩):GO P n K (⟨some d,g,op,xs⟩ :: l) ⟨env,heap,next⟩:=by
 subst hv hh hn
 have hd':dOk n (some d) = true:=by simpa [dOk,Nat.blt_eq] using hd
 have hc':core op ps (St.h ⟨env,heap,next⟩) next = some ⟨v,rh,wh,nw⟩:=hc
 unfold GO opEff
 simp only [hd',if_true,hg,hx,hc',Option.map_some]
 exact k
theorem GO.step0 {g:Option (Nat × Bool)} (hg:guarded env g = some true) (hx:evalXs env xs = some ps) (hc:core op ps (fun id=>heap.lookup id) next = some ⟨v,rh,wh,nw⟩) (hh:happL wh heap = zj) (hn:next + nw.length = zk)
  (k:GO P n K l ⟨env,zj,zk⟩):GO P n K (⟨none,g,op,xs⟩ :: l) ⟨env,heap,next⟩:=by
 subst hh hn
 have hc':core op ps (St.h ⟨env,heap,next⟩) next = some ⟨v,rh,wh,nw⟩:=hc
 unfold GO opEff
 simp only [dOk,if_true,hg,hx,hc',Option.map_some]
 exact k
theorem GO.skip {g:Option (Nat × Bool)} (hd:Nat.blt d n = true) (hg:guarded env g = some false) (k:GO P n K l ⟨(d,.hole) :: env,heap,next⟩):GO P n K (⟨some d,g,op,xs⟩ :: l) ⟨env,heap,next⟩:=by
 have hd':dOk n (some d) = true:=by simpa [dOk,Nat.blt_eq] using hd
 unfold GO opEff
 simp only [hd',if_true,hg]
 exact k
theorem GO.done (k:K ⟨env,heap,next⟩):GO P n K [] ⟨env,heap,next⟩:=k
theorem GO.idx {g:Option (Nat × Bool)} {sz:Nat} {es:List (List PVal)} {ik:IntKind} {i:Int} {e:List PVal} (hd:Nat.blt d n = true) (hg:guarded env g = some true) (hx:evalXs env xs = some [.ro sz es,.int ik i]) (hi:0 ≤ i) (he:es[i.toNat]? = some e)
  (k:GO P n K l ⟨(d,.rptr e) :: env,heap,next⟩):GO P n K (⟨some d,g,.idxA sz,xs⟩ :: l) ⟨env,heap,next⟩:=by
 have hlt:=(List.getElem?_eq_some_iff.1 he).1
 refine GO.step (v:=.rptr (es.getD i.toNat [])) (rh:=[]) (wh:=[]) (nw:=[]) hd hg hx ?_ ?_ rfl rfl k
 ·simp only [core]
  rw [if_pos ⟨True.intro,hi,by omega⟩]
 ·rw [List.getD_eq_getElem?_getD,he]; rfl
theorem GO.callp {g:Option (Nat × Bool)} {f:FuncId} {r:PVal} (hd:Nat.blt d n = true) (hg:guarded env g = some true) (hx:evalXs env xs = some ps) (hF:FnOk P f ps [] 0 r [] 0) (hp:PVal.closed.go ps = true) (hr:r.closed = true)
  (k:GO P n K l ⟨(d,r) :: env,heap,next⟩):GO P n K (⟨some d,g,.call f,xs⟩ :: l) ⟨env,heap,next⟩:=by
 have hd':dOk n (some d) = true:=by simpa [dOk,Nat.blt_eq] using hd
 have he:EffOk P n ⟨env,heap,next⟩ ⟨some d,g,.call f,xs⟩ (callEff ⟨env,heap,next⟩ ⟨some d,g,.call f,xs⟩ [] [] r [] 0) :=
  call_ok rfl hd' hg hx hF (viewPs_closed _ _ hp) rfl rfl (.inl rfl)
 have hgo:GO P n K (⟨some d,g,.call f,xs⟩ :: l) ⟨env,heap,next⟩ = RG P n [] K (⟨some d,g,.call f,xs⟩ :: l) [] ⟨env,heap,next⟩:=by
  rw [GO]
  have:opEff n ⟨env,heap,next⟩ ⟨some d,g,.call f,xs⟩ = none:=by
   unfold opEff
   simp only [hd',if_true,hg,hx]
   rfl
  rw [this]
 rw [hgo]
 refine RG.call he ?_
 simp only [St.app,callEff,Option.map_some,envApp,callWh,List.range_zero,List.map_nil,happL]
 rw [renP_closed _ hr]
 exact k
theorem GO.callb {g:Option (Nat × Bool)} {f:FuncId} {qs:List PVal} {r r':PVal} {h1:List (AId × AObj)} {k1:Nat} (bi:List Nat) (hd:Nat.blt d n = true) (hg:guarded env g = some true) (hx:evalXs env xs = some ps) (hv:viewP.go [] (pickH heap bi) ps = some qs) (hF:FnOk P f qs [] 0 r h1 k1)
  (hfl:FlatR r h1) (hr:renP (tau [] next) r = r') (hh:happL (callWh [] next h1 k1) heap = zj) (hn:next + k1 = zk)
  (k:GO P n K l ⟨(d,r') :: env,zj,zk⟩):GO P n K (⟨some d,g,.call f,xs⟩ :: l) ⟨env,heap,next⟩:=by
 subst hr hh hn
 have hd':dOk n (some d) = true:=by simpa [dOk,Nat.blt_eq] using hd
 have he:EffOk P n ⟨env,heap,next⟩ ⟨some d,g,.call f,xs⟩ (callEff ⟨env,heap,next⟩ ⟨some d,g,.call f,xs⟩ [] bi r h1 k1) :=
  call_ok rfl hd' hg hx hF hv rfl rfl (.inr hfl)
 have hgo:GO P n K (⟨some d,g,.call f,xs⟩ :: l) ⟨env,heap,next⟩ = RG P n [] K (⟨some d,g,.call f,xs⟩ :: l) [] ⟨env,heap,next⟩:=by
  rw [GO]
  have:opEff n ⟨env,heap,next⟩ ⟨some d,g,.call f,xs⟩ = none:=by
   unfold opEff
   simp only [hd',if_true,hg,hx]
   rfl
  rw [this]
 rw [hgo]
 refine RG.call he ?_
 simpa only [St.app,callEff,Option.map_some,envApp,List.length_range',List.length_nil,Nat.sub_zero] using k
theorem GO.callvp {g:Option (Nat × Bool)} {f:FuncId} {first caps:List PVal} {r:PVal} (hd:Nat.blt d n = true) (hg:guarded env g = some true) (hx:evalXs env xs = some (.fn f first caps :: rest)) (hF:FnOk P f (first ++ rest ++ caps) [] 0 r [] 0)
  (hp:PVal.closed.go (first ++ rest ++ caps) = true) (hr:r.closed = true)
  (k:GO P n K l ⟨(d,r) :: env,heap,next⟩):GO P n K (⟨some d,g,.callv,xs⟩ :: l) ⟨env,heap,next⟩:=by
 have hd':dOk n (some d) = true:=by simpa [dOk,Nat.blt_eq] using hd
 have he:EffOk P n ⟨env,heap,next⟩ ⟨some d,g,.callv,xs⟩ (callEff ⟨env,heap,next⟩ ⟨some d,g,.callv,xs⟩ [] [] r [] 0) :=
  callv_ok rfl hd' hg hx hF (viewPs_closed _ _ hp) rfl rfl (.inl rfl)
 have hgo:GO P n K (⟨some d,g,.callv,xs⟩ :: l) ⟨env,heap,next⟩ = RG P n [] K (⟨some d,g,.callv,xs⟩ :: l) [] ⟨env,heap,next⟩:=by
  rw [GO]
  have:opEff n ⟨env,heap,next⟩ ⟨some d,g,.callv,xs⟩ = none:=by
   unfold opEff
   simp only [hd',if_true,hg,hx]
   rfl
  rw [this]
 rw [hgo]
 refine RG.call he ?_
 simp only [St.app,callEff,Option.map_some,envApp,callWh,List.range_zero,List.map_nil,happL]
 rw [renP_closed _ hr]
 exact k
end
end Go.Proofs.YtmfggjebbhdejaaGreat.Abs
