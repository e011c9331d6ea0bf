/- The abstract machine's rules over typed rows: each row is a list of a Lean type, seen through its cells. Generic over any program. -/
import Derived.Test.YtakallenldpkiaaGreatDoorA21
import Derived.Test.YtakallenldpkiaaGreatDoorP0
set_option linter.unusedVariables false
set_option linter.unusedSimpArgs false
set_option linter.unusedSectionVars false
namespace Go.Proofs.YtakallenldpkiaaGreatDoor.Abs
open Go
variable [DqC]
def c_i64 (x:Int):List PVal:=[.int .i64 x]
def c_str (x:ByteArray):List PVal:=[.str x]
theorem qq (b:Bool):b = false ∨ b = true:=by cases b <;> simp
theorem zj {α:Type} (f:α → List PVal) (l:List α):PVal.int .i64 ((l.map f).length:Int) = .int .i64 (l.length:Int):=by rw [List.length_map]
theorem drop_end {α:Type} {l:List α} {i:Nat} (h:decide ((i:Int) < (l.length:Int)) = false):l.drop i = []:=by
 rw [decide_eq_false_iff_not] at h
 exact List.drop_eq_nil_of_le (by omega)
theorem drop_more {α:Type} {l:List α} {i:Nat} (h:decide ((i:Int) < (l.length:Int)) = true) : ∃ x,l[i]? = some x ∧ l.drop i = x :: l.drop (i + 1) ∧ i < l.length:=by
 rw [decide_eq_true_eq] at h
 have hlt:i < l.length:=by omega
 exact ⟨l[i],List.getElem?_eq_getElem hlt,List.drop_eq_getElem_cons hlt,hlt⟩
theorem wrap_up {i n:Nat} (h:i < n) (hn:n ≤ 9223372036854775807):IntKind.i64.wrap ((i:Int) + 1) = ((i + 1:Nat):Int):=by
 rw [wrap64_of (by omega) (by omega)]; omega
theorem fuel_pos {i B:Int} {k:Nat} (hb:decide (i < B) = true) (h:fuelUp i B ≤ k) : ∃ f,k = f + 1:=by
 rw [decide_eq_true_eq] at hb
 unfold fuelUp at h
 split at h
 ·exact ⟨k - 1,by omega⟩
 ·exact ⟨k - 1,by omega⟩
theorem fuel_up {i B:Int} {f:Nat} (hb:decide (i < B) = true) (hB:B ≤ 9223372036854775807) (h:fuelUp i B ≤ f + 1):fuelUp (IntKind.i64.wrap (i + 1)) B ≤ f:=by
 rw [decide_eq_true_eq] at hb
 unfold fuelUp at h ⊢
 by_cases hr : -9223372036854775808 ≤ i ∧ i < 9223372036854775808
 ·rw [if_pos hr] at h
  rw [wrap64_of (by omega) (by omega)]
  rw [if_pos (by omega)]
  omega
 ·rw [if_neg hr] at h
  have h3:(2:Int) ^ IntKind.i64.bits = 18446744073709551616:=by decide
  have h4:(2:Int) ^ (IntKind.i64.bits - 1) = 9223372036854775808:=by decide
  have h5:IntKind.i64.signed = true:=rfl
  have hw : -9223372036854775808 ≤ IntKind.i64.wrap (i + 1) ∧ IntKind.i64.wrap (i + 1) < 9223372036854775808:=by
   simp only [IntKind.wrap,h3,h4,h5,Bool.true_and,decide_eq_true_eq,ge_iff_le]
   split <;> omega
  rw [if_pos hw]
  omega
theorem wrap_u64_nonneg (x:Int):0 ≤ IntKind.u64.wrap x:=by
 have h3:(2:Int) ^ IntKind.u64.bits = 18446744073709551616:=by decide
 have h5:IntKind.u64.signed = false:=rfl
 simp only [IntKind.wrap,h3,h5,Bool.false_and,Bool.false_eq_true,if_false]
 exact Int.emod_nonneg _ (by decide)
theorem elems_own {α:Type} {c:α → List PVal} {X:List α} {h:Heap} {id sz:Nat} {ty:TypeId} (ho:h id = some (.row sz ty (X.map c))):elems h (.own id sz 0 X.length) = some (sz,X.map c,[id]):=by
 simp only [elems,ho]
 rw [if_pos ⟨trivial,by simp⟩,List.drop_zero,List.take_of_length_le (by simp)]
theorem view_rowT {α:Type} {c:α → List PVal} {L:List α} {sl:List Nat} {bs:List (AId × AObj)} {id sz:Nat} {ty:TypeId} (hp:posAt sl id 0 = none) (ho:bs.lookup id = some (.row sz ty (L.map c))):viewP sl bs (.own id sz 0 L.length) = some (.ro sz (L.map c)) :=
 view_row hp ho (by rw [List.length_map])
theorem qw {sl:List Nat} {bs:List (AId × AObj)}:viewP.go sl bs [] = some []:=rfl
theorem qz {sl:List Nat} {bs:List (AId × AObj)} {p q:PVal} {r l:List PVal} (h:viewP sl bs p = some q) (k:viewP.go sl bs r = some l):viewP.go sl bs (p :: r) = some (q :: l):=by
 simp only [viewP.go,h,k]
theorem RetQ.fr {ts:List RV} {v:PVal} {e:Exit} {env:List (Nat × PVal)} {heap:List (AId × AObj)} {next:Nat} {qs qs':List PVal} (bi:List Nat) (he:e = .normal ∨ e = .ret) (hq:evalRs env heap ts = some qs) (hs:slOk [] bi next = true)
  (hv:viewP.go [] (pickH heap bi) qs = some qs') (hr:v = retV qs'):RetQ 0 ts v [] 0 e ⟨env,heap,next⟩ :=
 RetQ.done (sl:=[]) (bi:=bi) he hq (fun i h=>absurd h (Nat.not_lt_zero i)) (Nat.le_refl _) hs rfl hv (hr ▸ .refl) rfl
section
variable {P:Program} {n k0:Nat} {Q:Exit → St → Prop} {st:St} {r:List AC} {env:List (Nat × PVal)} {heap zx:List (AId × AObj)} {next:Nat}
theorem WK.len {t sz:Nat} {es:List (List PVal)} (h:st.env.lookup t = some (.ro sz es)) (hr:r ≠ []) (k:es.length ≤ 9223372036854775807 → WK P n k0 r Q st):WK P n k0 r Q st:=by
 cases r with
 | nil=>exact absurd rfl hr
 | cons c r =>
  intro c' hc rr ds m ok a w hk hS
  obtain ⟨v,hv,hrep⟩:=hS.tmp t _ h
  have:es.length ≤ 9223372036854775807:=by
   cases hrep with
   | ro vs hn hcp hm hs hA hcell h=>rw [hn]; exact Nat.le_trans hcp hm
  exact k this c' hc rr ds m ok a w hk hS
theorem Rep.len {w:World} {ok:Nat → Prop} {D:AId → Prop} {m:AId → Option Blk} {c:Bool} {sz:Nat} {es:List (List PVal)} {v:Value} (h:Rep w ok D m c (.ro sz es) v):es.length ≤ 9223372036854775807:=by
 cases h with
 | ro vs hn hcp hm hs hA hcell h=>rw [hn]; exact Nat.le_trans hcp hm
def WU (P:Program) (n k0 id:Nat) (x:AC) (r:List AC) (Q:Exit → St → Prop):Nat → St → Prop
 | 0,_=>False
 | m + 1,st=>WK P n k0 [x] (QF id (WU P n k0 id x r Q m) (WK P n k0 r Q) Q) st
theorem WU.go {id m:Nat} {x:AC} (h:WK P n k0 [x] (QF id (WU P n k0 id x r Q m) (WK P n k0 r Q) Q) st):WU P n k0 id x r Q (m + 1) st:=h
theorem lookup_snoc {id:Nat} {o o':AObj} : ∀ {h:List (AId × AObj)} {j:Nat},(h ++ [(id,o)]).lookup j = some o' → h.lookup j = some o' ∨ (h.lookup j = none ∧ j = id ∧ o' = o)
 | [],j,hl=>by
  by_cases hj:j = id
  ·subst hj
   simp [List.lookup] at hl
   exact .inr ⟨rfl,rfl,hl.symm⟩
  ·have:(j == id) = false:=by simpa using hj
   simp [List.lookup,this] at hl
 | (k,x) :: h,j,hl=>by
  by_cases hj:j = k
  ·subst hj
   simp [List.lookup] at hl ⊢
   exact hl
  ·have:(j == k) = false:=by simpa using hj
   simp only [List.cons_append,List.lookup,this] at hl ⊢
   exact lookup_snoc hl
theorem Conv.adopt {t sz:Nat} {ty:TypeId} (h:env.lookup t = some .nils) (hsz:0 < sz):Conv k0 ⟨env,heap,next⟩ ⟨(t,.own next sz 0 0) :: env,heap ++ [(next,.row sz ty [])],next + 1⟩:=by
 intro n ds m ok a w hk hS
 have hk:k0 ≤ next:=hk
 have hS:Sim n ds (· < next) m ok (fun t=>env.lookup t) (fun i=>heap.lookup i) a w:=hS
 have hmn:m next = none:=by
  cases hm:m next with
  | none=>rfl
  | some B=>exact absurd (hS.hp.dom next B hm) (Nat.lt_irrefl _)
 let m':AId → Option Blk:=fun id=>if id = next then some .nil else m id
 have hm' : ∀ id,id < next → m' id = m id:=fun id hid=>if_neg (Nat.ne_of_lt hid)
 have hat : ∀ id b t,m' id = some (.at b t) → m id = some (.at b t):=fun id b t he=>by
  by_cases hid:id = next
  ·subst hid; simp [m'] at he
  ·simpa [m',hid] using he
 have hst:Step m w m' w:=⟨rfl,Tp.refl w,rfl,Nat.le_refl _,fun _ _ _=>rfl,fun id b t he=>.inl ⟨id,t,hat id b t he⟩⟩
 have hD : ∀ id,id < next → id < next + 1:=fun id hid=>by omega
 have hmm : ∀ id,id < next → m' id = m id ∨ m' id = none:=fun id hid=>.inl (hm' id hid)
 refine ⟨m',⟨⟨fun id o ho=>?_,fun id B hB=>?_,fun id id' b t t' h1 h2=>hS.hp.inj id id' b t t' (hat _ _ _ h1) (hat _ _ _ h2),fun id b t he=>hS.hp.lt id b t (hat _ _ _ he),fun id b t he=>hS.hp.okm id b t (hat _ _ _ he),hS.hp.fresh,fun x hx=>⟨fun id t he=>(hS.hp.glob x hx).1 id t (hat _ _ _ he),(hS.hp.glob x hx).2⟩⟩,fun t' p hp=>?_,hS.df,hS.sz⟩,hst,fun id hid=>.inl (hm' id (Nat.lt_of_lt_of_le hid hk)),Nat.le_succ_of_le hk⟩
 ·rcases lookup_snoc (show (heap ++ [(next,AObj.row sz ty [])]).lookup id = some o from ho) with h1 | ⟨h0,h1,h2⟩
  ·obtain ⟨B,hB,hrep⟩:=hS.hp.obj id o h1
   have hlt:=hS.hp.dom id B hB
   exact ⟨B,by rw [hm' id hlt]; exact hB,hrep.step hst (fun _ _ _=>rfl) hD hmm⟩
  ·subst h1 h2
   exact ⟨.nil,by simp [m'],rfl,hsz⟩
 ·by_cases hid:id = next
  ·exact hid ▸ Nat.lt_succ_self next
  ·have:m id = some B:=by simpa [m',hid] using hB
   exact hD _ (hS.hp.dom id B this)
 ·have hp':((t,PVal.own next sz 0 0) :: env).lookup t' = some p:=hp
  by_cases ht:t' = t
  ·subst ht
   simp [List.lookup] at hp'
   subst hp'
   obtain ⟨v,hv,hrep⟩:=hS.tmp t' _ h
   refine ⟨v,hv,?_⟩
   cases hrep
   refine .own (Nat.lt_succ_self _) rfl fun B hB=>?_
   have:B = .nil:=by simpa [m'] using hB.symm
   subst this
   exact ⟨⟨_,rfl⟩,rfl,rfl⟩
  ·have:(t' == t) = false:=by simpa using ht
   simp only [List.lookup,this] at hp'
   obtain ⟨v,hv,hrep⟩:=hS.tmp t' p hp'
   exact ⟨v,hv,hrep.step hst hD hmm⟩
theorem WK.adopt {t sz:Nat} {ty:TypeId} (h:env.lookup t = some .nils) (hsz:0 < sz) (hr:r ≠ []) (hh:heap ++ [(next,.row sz ty [])] = zx) (k:WK P n k0 r Q ⟨(t,.own next sz 0 0) :: env,zx,next + 1⟩):WK P n k0 r Q ⟨env,heap,next⟩:=by
 subst hh
 exact WK.conv (Conv.adopt h hsz) k hr
end
section
variable {P:Program} {n:Nat} {K:St → Prop} {l:List AO} {env:List (Nat × PVal)} {heap zx:List (AId × AObj)} {next zy d:Nat} {op:AOp} {xs:List AX} {ps qs rest:List PVal} {v v':PVal} {rh:List AId} {dr:List (List Nat)} {racc:List Eff}
theorem GO.idxT {α:Type} {c:α → List PVal} {L:List α} {x:α} {g:Option (Nat × Bool)} {sz:Nat} {ik:IntKind} {i:Int} (hd:Nat.blt d n = true) (hg:guarded env g = some true) (hx:evalXs env xs = some [.ro sz (L.map c),.int ik i]) (hi:0 ≤ i) (he:L[i.toNat]? = some x)
  (k:GO P n K l ⟨(d,.rptr (c x)) :: env,heap,next⟩):GO P n K (⟨some d,g,.idxA sz,xs⟩ :: l) ⟨env,heap,next⟩:=GO.idx hd hg hx hi (by rw [List.getElem?_map,he]; rfl) k
theorem RD.idxT {α:Type} {c:α → List PVal} {L:List α} {x:α} {g:Option (Nat × Bool)} {sz:Nat} {ik:IntKind} {i:Int} (hd:Nat.blt d n = true) (hg:guarded env g = some true) (hx:evalXs env xs = some [.ro sz (L.map c),.int ik i]) (hi:0 ≤ i) (he:L[i.toNat]? = some x)
  (k:RD P n dr K l ({ rt:=tmpsG g ++ tmpsX xs,wt:=some (d,.undef),rh:=[],wh:=[],nw:=[] } :: racc) ⟨(d,.rptr (c x)) :: env,heap,next⟩):RD P n dr K (⟨some d,g,.idxA sz,xs⟩ :: l) racc ⟨env,heap,next⟩:=RD.idx hd hg hx hi (by rw [List.getElem?_map,he]; rfl) k
theorem GO.appT {α:Type} {c:α → List PVal} {L X:List α} {g:Option (Nat × Bool)} {id sz by_ m:Nat} {ty:TypeId} {x:PVal} {rh2:List AId} (hd:Nat.blt d n = true) (hg:guarded env g = some true) (hx:evalXs env xs = some [.own id sz 0 m,x]) (ho:heap.lookup id = some (.row sz ty (L.map c)))
  (he:elems (fun id=>heap.lookup id) x = some (sz,X.map c,rh2)) (hb:(L.length + X.length) * by_ ≤ 140737488355328) (hl:L.length + X.length ≤ 9223372036854775807) (hm:m = L.length) (hid:rh2.contains id = false) (hh:happL [(next,some (.row sz ty ((L ++ X).map c))),(id,none)] heap = zx) (hn:next + 1 = zy)
  (k:GO P n K l ⟨(d,.own next sz 0 (L ++ X).length) :: env,zx,zy⟩):GO P n K (⟨some d,g,.append sz ty by_,xs⟩ :: l) ⟨env,heap,next⟩:=by
 subst hh
 refine GO.app hd hg hx ho (by rw [List.length_map,hm]) he (by simpa using hb) (by simp only [List.length_map]; exact hl) hid rfl hn ?_
 rw [← List.map_append,List.length_map,List.length_map,← List.length_append]
 exact k
theorem RD.appT {α:Type} {c:α → List PVal} {L X:List α} {g:Option (Nat × Bool)} {id sz by_ m:Nat} {ty:TypeId} {x:PVal} {rh2:List AId} (hd:Nat.blt d n = true) (hg:guarded env g = some true) (hx:evalXs env xs = some [.own id sz 0 m,x]) (ho:heap.lookup id = some (.row sz ty (L.map c)))
  (he:elems (fun id=>heap.lookup id) x = some (sz,X.map c,rh2)) (hb:(L.length + X.length) * by_ ≤ 140737488355328) (hl:L.length + X.length ≤ 9223372036854775807) (hm:m = L.length) (hid:rh2.contains id = false) (hh:happL [(next,some (.row sz ty ((L ++ X).map c))),(id,none)] heap = zx) (hn:next + 1 = zy)
  (k:RD P n dr K l ({ rt:=tmpsG g ++ tmpsX xs,wt:=some (d,.undef),rh:=id :: rh2,wh:=[(next,none),(id,none)],nw:=[] } :: racc) ⟨(d,.own next sz 0 (L ++ X).length) :: env,zx,zy⟩):RD P n dr K (⟨some d,g,.append sz ty by_,xs⟩ :: l) racc ⟨env,heap,next⟩:=by
 subst hh
 refine RD.app hd hg hx ho (by rw [List.length_map,hm]) he (by simpa using hb) (by simp only [List.length_map]; exact hl) hid rfl hn ?_
 rw [← List.map_append,List.length_map,List.length_map,← List.length_append]
 exact k
theorem core_shl {h:Heap} {nx:AId} {ek:EK} {k k':IntKind} {a b:Int} (hb:0 ≤ b):core (.bin .shl ek) [.int k a,.int k' b] h nx = some { v:=.int k (shl_ k a b) }:=by
 simp only [core,coreBin,binV]
 rw [if_neg (by omega)]
 rfl
theorem core_shr {h:Heap} {nx:AId} {ek:EK} {k k':IntKind} {a b:Int} (hb:0 ≤ b):core (.bin .shr ek) [.int k a,.int k' b] h nx = some { v:=.int k (shr_ k a b) }:=by
 simp only [core,coreBin,binV]
 rw [if_neg (by omega)]
 rfl
theorem GO.shl {g:Option (Nat × Bool)} {ek:EK} {k k':IntKind} {a b:Int} (hd:Nat.blt d n = true) (hg:guarded env g = some true) (hx:evalXs env xs = some [.int k a,.int k' b]) (hb:0 ≤ b)
  (kk:GO P n K l ⟨(d,.int k (shl_ k a b)) :: env,heap,next⟩):GO P n K (⟨some d,g,.bin .shl ek,xs⟩ :: l) ⟨env,heap,next⟩:=GO.pure hd hg hx (core_shl hb) rfl kk
theorem GO.shr {g:Option (Nat × Bool)} {ek:EK} {k k':IntKind} {a b:Int} (hd:Nat.blt d n = true) (hg:guarded env g = some true) (hx:evalXs env xs = some [.int k a,.int k' b]) (hb:0 ≤ b)
  (kk:GO P n K l ⟨(d,.int k (shr_ k a b)) :: env,heap,next⟩):GO P n K (⟨some d,g,.bin .shr ek,xs⟩ :: l) ⟨env,heap,next⟩:=GO.pure hd hg hx (core_shr hb) rfl kk
theorem RD.shl {g:Option (Nat × Bool)} {ek:EK} {k k':IntKind} {a b:Int} (hd:Nat.blt d n = true) (hg:guarded env g = some true) (hx:evalXs env xs = some [.int k a,.int k' b]) (hb:0 ≤ b)
  (kk:RD P n dr K l ({ rt:=tmpsG g ++ tmpsX xs,wt:=some (d,.undef),rh:=[],wh:=[],nw:=[] } :: racc) ⟨(d,.int k (shl_ k a b)) :: env,heap,next⟩):RD P n dr K (⟨some d,g,.bin .shl ek,xs⟩ :: l) racc ⟨env,heap,next⟩:=RD.pure hd hg hx (core_shl hb) rfl kk
theorem RD.shr {g:Option (Nat × Bool)} {ek:EK} {k k':IntKind} {a b:Int} (hd:Nat.blt d n = true) (hg:guarded env g = some true) (hx:evalXs env xs = some [.int k a,.int k' b]) (hb:0 ≤ b)
  (kk:RD P n dr K l ({ rt:=tmpsG g ++ tmpsX xs,wt:=some (d,.undef),rh:=[],wh:=[],nw:=[] } :: racc) ⟨(d,.int k (shr_ k a b)) :: env,heap,next⟩):RD P n dr K (⟨some d,g,.bin .shr ek,xs⟩ :: l) racc ⟨env,heap,next⟩:=RD.pure hd hg hx (core_shr hb) rfl kk
theorem RD.callvp {g:Option (Nat × Bool)} {f:FuncId} {first caps:List PVal} {r:PVal} (hd:Nat.blt d n = true) (hg:guarded env g = some true) (hx:evalXs env xs = some (.fn f first caps :: rest)) (hF:FnOk P f (first ++ rest ++ caps) [] 0 r [] 0)
  (hp:PVal.closed.go (first ++ rest ++ caps) = true) (hr:r.closed = true) (k:RD P n dr K l ({ rt:=tmpsG g ++ tmpsX xs,wt:=some (d,.undef),rh:=[],wh:=[],nw:=[] } :: racc) ⟨(d,r) :: env,heap,next⟩):RD P n dr K (⟨some d,g,.callv,xs⟩ :: l) racc ⟨env,heap,next⟩:=by
 have hd':dOk n (some d) = true:=by simpa [dOk,Nat.blt_eq] using hd
 refine RD.eff (callv_ok (st:=⟨env,heap,next⟩) (ao:=⟨some d,g,.callv,xs⟩) rfl hd' hg hx hF (sl:=[]) (bi:=[]) (viewPs_closed _ _ hp) rfl rfl (.inl rfl)) ?_
 simp only [St.app,Eff.er,callEff,Option.map_some,envApp,callWh,List.range_zero,List.map_nil,happL,List.append_nil]
 rw [renP_closed _ hr]
 exact k
end
theorem closed3 {a b c:List PVal} (h1:PVal.closed.go a = true) (h2:PVal.closed.go b = true) (h3:PVal.closed.go c = true):PVal.closed.go (a ++ b ++ c) = true:=by simp only [closed_append,h1,h2,h3,Bool.and_self]
theorem EffOk.weak {P:Program} {n:Nat} {st:St} {ao:AO} {e:Eff} {d:Nat} {p p':PVal} (h:EffOk P n st ao e) (hw:e.wt = some (d,p)) (hp:WeakP p p'):EffOk P n st ao { e with wt:=some (d,p') }:=by
 refine ⟨h.1,fun ops i o ho ht=>⟨(h.2 ops i o ho ht).1,fun rr ds D m ok env heap a w Q K hS hrt hrh hrc hnw hK=>(h.2 ops i o ho ht).2 rr ds D m ok env heap a w Q K hS hrt hrh hrc hnw fun D' m' a' w' hS' h1 h2 h3=>hK D' m' a' w' ⟨hS'.hp,fun t q hq=>?_,hS'.df,hS'.sz⟩ h1 h2 h3⟩⟩
 by_cases ht:t = d
 ·subst ht
  have hq':q = p':=by simpa [eapp] using hq.symm
  subst hq'
  obtain ⟨v,hv,hr⟩:=hS'.tmp t p (by rw [hw]; simp [eapp])
  exact ⟨v,hv,hr.weak hp⟩
 ·refine hS'.tmp t q ?_
  rw [hw]
  simpa [eapp,ht] using hq
theorem viewP_fnc {sl:List Nat} {bs:List (AId × AObj)} {f:FuncId} {a b:List PVal} (h:PVal.closed.go a = true ∧ PVal.closed.go b = true):viewP sl bs (.fn f a b) = some (.fn f a b):=viewP_closed _ _ (by simp [PVal.closed,h])
section
variable {P:Program} {o:Oper} {ρ:Operand → Value} {D:AId → Prop} {m:AId → Option Blk} {ok:Nat → Prop} {heap:AId → Option AObj} {w:World}
end
section
variable {P:Program} {n:Nat} {K:St → Prop} {l:List AO} {env:List (Nat × PVal)} {heap:List (AId × AObj)} {next d:Nat} {xs:List AX} {ps:List PVal} {dr:List (List Nat)} {racc:List Eff}
theorem RD.done0 {racc:List Eff} (k:K ⟨env,heap,next⟩):RD P n [] K [] racc ⟨env,heap,next⟩:=fun acc ha=>RG.done (.inl rfl) k
theorem RD.pureW {g:Option (Nat × Bool)} {op:AOp} {v v':PVal} {rh:List AId} (hd:Nat.blt d n = true) (hg:guarded env g = some true) (hx:evalXs env xs = some ps) (hc:core op ps (fun id=>heap.lookup id) next = some ⟨v,rh,[],[]⟩) (hv:WeakP v v')
  (k:RD P n dr K l ({ rt:=tmpsG g ++ tmpsX xs,wt:=some (d,.undef),rh:=rh,wh:=[],nw:=[] } :: racc) ⟨(d,v') :: env,heap,next⟩):RD P n dr K (⟨some d,g,op,xs⟩ :: l) racc ⟨env,heap,next⟩:=by
 have hd':dOk n (some d) = true:=by simpa [dOk,Nat.blt_eq] using hd
 have hc':core op ps (St.h ⟨env,heap,next⟩) next = some ⟨v,rh,[],[]⟩:=hc
 refine RD.eff (EffOk.weak (e:={ rt:=tmpsG g ++ tmpsX xs,wt:=some (d,v),rh,wh:=[],nw:=[] }) (opEff_ok ?_) rfl hv) k
 unfold opEff
 simp only [hd',if_true,hg,hx,hc',Option.map_some]
end
structure GX (P:Program) (n:Nat) (K:St → Prop) (l:List AO) (st:St):Prop where
 run:GO P n K l st
section
variable {P:Program} {n k0:Nat} {K:St → Prop} {l:List AO} {env:List (Nat × PVal)} {heap zx:List (AId × AObj)} {next zy d:Nat} {op:AOp} {xs:List AX} {ps qs rest:List PVal} {v v':PVal} {rh:List AId} {wh:List (AId × Option AObj)} {nw:List AId} {g:Option (Nat × Bool)}
theorem WK.regx {Q:Exit → St → Prop} {st:St} {r:List AC} (hP:P.follows .mixedOrders = true) (h:GX P n (fun s=>WK P n k0 r Q s) l st):WK P n k0 (.reg [] l :: r) Q st:=WK.reg hP h.run
theorem GX.done (k:K ⟨env,heap,next⟩):GX P n K [] ⟨env,heap,next⟩:=⟨GO.done k⟩
theorem GX.pure (hd:Nat.blt d n = true) (hg:guarded env g = some true) (hx:evalXs env xs = some ps) (hc:core op ps (fun id=>heap.lookup id) next = some ⟨v,rh,[],[]⟩) (hv:v = v')
  (k:GX P n K l ⟨(d,v') :: env,heap,next⟩):GX P n K (⟨some d,g,op,xs⟩ :: l) ⟨env,heap,next⟩:=⟨GO.pure hd hg hx hc hv k.run⟩
theorem GX.step (hd:Nat.blt d n = true) (hg:guarded env g = some true) (hx:evalXs env xs = some ps) (hc:core op ps (fun id=>heap.lookup id) next = some ⟨v,rh,wh,nw⟩) (hv:v = v') (hh:happL wh heap = zx) (hn:next + nw.length = zy)
  (k:GX P n K l ⟨(d,v') :: env,zx,zy⟩):GX P n K (⟨some d,g,op,xs⟩ :: l) ⟨env,heap,next⟩:=⟨GO.step hd hg hx hc hv hh hn k.run⟩
theorem GX.step0 (hg:guarded env g = some true) (hx:evalXs env xs = some ps) (hc:core op ps (fun id=>heap.lookup id) next = some ⟨v,rh,wh,nw⟩) (hh:happL wh heap = zx) (hn:next + nw.length = zy)
  (k:GX P n K l ⟨env,zx,zy⟩):GX P n K (⟨none,g,op,xs⟩ :: l) ⟨env,heap,next⟩:=⟨GO.step0 hg hx hc hh hn k.run⟩
theorem GX.skip (hd:Nat.blt d n = true) (hg:guarded env g = some false) (k:GX P n K l ⟨(d,.hole) :: env,heap,next⟩):GX P n K (⟨some d,g,op,xs⟩ :: l) ⟨env,heap,next⟩:=⟨GO.skip hd hg k.run⟩
theorem GX.idxT {α:Type} {c:α → List PVal} {L:List α} {x:α} {sz:Nat} {ik:IntKind} {i:Int} (hd:Nat.blt d n = true) (hg:guarded env g = some true) (hx:evalXs env xs = some [.ro sz (L.map c),.int ik i]) (hi:0 ≤ i) (he:L[i.toNat]? = some x)
  (k:GX P n K l ⟨(d,.rptr (c x)) :: env,heap,next⟩):GX P n K (⟨some d,g,.idxA sz,xs⟩ :: l) ⟨env,heap,next⟩:=⟨GO.idxT hd hg hx hi he k.run⟩
theorem GX.appT {α:Type} {c:α → List PVal} {L X:List α} {id sz by_ m:Nat} {ty:TypeId} {x:PVal} {rh2:List AId} (hd:Nat.blt d n = true) (hg:guarded env g = some true) (hx:evalXs env xs = some [.own id sz 0 m,x]) (ho:heap.lookup id = some (.row sz ty (L.map c)))
  (he:elems (fun id=>heap.lookup id) x = some (sz,X.map c,rh2)) (hb:(L.length + X.length) * by_ ≤ 140737488355328) (hl:L.length + X.length ≤ 9223372036854775807) (hm:m = L.length) (hid:rh2.contains id = false) (hh:happL [(next,some (.row sz ty ((L ++ X).map c))),(id,none)] heap = zx) (hn:next + 1 = zy)
  (k:GX P n K l ⟨(d,.own next sz 0 (L ++ X).length) :: env,zx,zy⟩):GX P n K (⟨some d,g,.append sz ty by_,xs⟩ :: l) ⟨env,heap,next⟩:=⟨GO.appT hd hg hx ho he hb hl hm hid hh hn k.run⟩
theorem GX.shl {ek:EK} {k k':IntKind} {a b:Int} (hd:Nat.blt d n = true) (hg:guarded env g = some true) (hx:evalXs env xs = some [.int k a,.int k' b]) (hb:0 ≤ b)
  (kk:GX P n K l ⟨(d,.int k (shl_ k a b)) :: env,heap,next⟩):GX P n K (⟨some d,g,.bin .shl ek,xs⟩ :: l) ⟨env,heap,next⟩:=⟨GO.shl hd hg hx hb kk.run⟩
theorem GX.shr {ek:EK} {k k':IntKind} {a b:Int} (hd:Nat.blt d n = true) (hg:guarded env g = some true) (hx:evalXs env xs = some [.int k a,.int k' b]) (hb:0 ≤ b)
  (kk:GX P n K l ⟨(d,.int k (shr_ k a b)) :: env,heap,next⟩):GX P n K (⟨some d,g,.bin .shr ek,xs⟩ :: l) ⟨env,heap,next⟩:=⟨GO.shr hd hg hx hb kk.run⟩
theorem GX.callp {f:FuncId} {r:PVal} (hd:Nat.blt d n = true) (hg:guarded env g = some true) (hx:evalXs env xs = some ps) (hF:FnOk P f ps [] 0 r [] 0) (hp:PVal.closed.go ps = true) (hr:r.closed = true)
  (k:GX P n K l ⟨(d,r) :: env,heap,next⟩):GX P n K (⟨some d,g,.call f,xs⟩ :: l) ⟨env,heap,next⟩:=⟨GO.callp hd hg hx hF hp hr k.run⟩
theorem GX.callbp {f:FuncId} {r:PVal} (bi:List Nat) (hd:Nat.blt d n = true) (hg:guarded env g = some true) (hx:evalXs env xs = some ps) (hv:viewP.go [] (pickH heap bi) ps = some qs) (hF:FnOk P f qs [] 0 r [] 0)
  (hfl:r.flat = true) (hr:r.closed = true) (k:GX P n K l ⟨(d,r) :: env,heap,next⟩):GX P n K (⟨some d,g,.call f,xs⟩ :: l) ⟨env,heap,next⟩:=⟨GO.callbp bi hd hg hx hv hF hfl hr k.run⟩
theorem GX.callvp {f:FuncId} {first caps:List PVal} {r:PVal} (hd:Nat.blt d n = true) (hg:guarded env g = some true) (hx:evalXs env xs = some (.fn f first caps :: rest)) (hF:FnOk P f (first ++ rest ++ caps) [] 0 r [] 0)
  (hp:PVal.closed.go (first ++ rest ++ caps) = true) (hr:r.closed = true) (k:GX P n K l ⟨(d,r) :: env,heap,next⟩):GX P n K (⟨some d,g,.callv,xs⟩ :: l) ⟨env,heap,next⟩:=⟨GO.callvp hd hg hx hF hp hr k.run⟩
end
theorem viewP_own_len {sl:List Nat} {bs:List (AId × AObj)} {id sz lo n n' j:Nat} (hp:posAt sl id 0 = some j) (hm:n = n'):viewP sl bs (.own id sz lo n) = some (.own j sz lo n'):=by
 subst hm
 simp only [viewP,hp]
section
variable {P:Program} {n k0:Nat} {K:St → Prop} {l:List AO} {env:List (Nat × PVal)} {heap zx:List (AId × AObj)} {next zy d:Nat} {xs:List AX} {v v':PVal} {g:Option (Nat × Bool)} {α:Type} {c:α → List PVal} {L M:List α} {x x':α} {id sz j off o':Nat} {ty:TypeId} {dr:List (List Nat)} {racc:List Eff}
end
end Go.Proofs.YtakallenldpkiaaGreatDoor.Abs
