/- Of the abstract machine and its walks: see the texts that import this. -/
import Derived.Test.YtakallenldpkiaaGreatDoorA17
import Derived.Test.YtakallenldpkiaaGreatDoorP10
import Derived.Room.Shelf.Join48
import Derived.Shelf.Strconv.Itoa3
import Derived.Test.YtakallenldpkiaaGreatDoorA23
import Derived.Shelf.SlSortCmp.NoneTotal
section
set_option linter.unusedVariables false
set_option linter.unusedSimpArgs false
namespace Go.Proofs.YtakallenldpkiaaGreatDoor.Abs
open Go Go.RowKit Go.Shelf
theorem Step.ofBelow {m:AId → Option Blk} {w w':World} (h:Below w.heap.size w w'):Step m w m w':=⟨h.os,⟨h.tape,fun e=>absurd e (by decide)⟩,h.output,h.size,fun b hb _=>h.block b hb,fun id b t e=>.inl ⟨id,t,e⟩⟩
theorem SimH.below {D:AId → Prop} {m:AId → Option Blk} {ok:Nat → Prop} {heap:AId → Option AObj} {w w':World} (hH:SimH D m ok heap w) (hb:Below w.heap.size w w'):SimH D m ok heap w':=by
 refine ⟨fun id o ho=>?_,hH.dom,hH.inj,fun id b t h=>Nat.lt_of_lt_of_le (hH.lt id b t h) hb.size,hH.okm,fun b h=>hH.fresh b (Nat.le_trans hb.size h),fun x hx=>?_⟩
 ·obtain ⟨B,hB,hob⟩:=hH.obj id o ho
  exact ⟨B,hB,hob.step (Step.ofBelow hb) (fun b t e=>by subst e; exact hb.block b (hH.lt id b t hB)) (fun _ h=>h) fun _ _=>.inl rfl⟩
 ·obtain ⟨h1,o,h2,h3⟩:=hH.glob x hx
  exact ⟨h1,o,(hb.block x.1 (Array.getElem?_eq_some_iff.1 h2).1).trans h2,h3⟩
theorem Reps.below {D:AId → Prop} {m:AId → Option Blk} {ok:Nat → Prop} {w w':World} {c:Bool} {ps:List PVal} {vs:List Value} (h:Reps w (okn ok m) D m c ps vs) (hb:Below w.heap.size w w'):Reps w' (okn ok m) D m c ps vs :=
 ⟨h.1,fun i p v hp hv=>(h.2 i p v hp hv).step (Step.ofBelow hb) (fun _ h=>h) fun _ _=>.inl rfl⟩
theorem FnOk.of_below {P:Program} {f:FuncId} {ps:List PVal} {r:PVal} (hE:Enters P f)
  (h : ∀ (m:AId → Option Blk) (ok:Nat → Prop) (w:World) (vs:List Value),SimH (· < 0) m ok (fun i=>([]:List (AId × AObj)).lookup i) w → Reps w (okn ok m) (· < 0) m false ps vs →
   Calls P f vs.toArray w fun e w'=>∃ v,e = .returned v ∧ Below w.heap.size w w' ∧ Rep w' (okn ok m) (· < 0) m false r v):FnOk P f ps [] 0 r [] 0:=by
 refine ⟨hE,Nat.le_refl _,fun m ok w vs hH hr=>(h m ok w vs hH hr).mono ?_⟩
 rintro e w' ⟨v,rfl,hb,hv⟩
 exact ⟨v,m,rfl,hH.below hb,hv,Step.ofBelow hb,Mon.refl _ m⟩
theorem tabIs_of {P:Program} {w:World} {b:Nat} {k:IntKind} {zs:List Int} {name:String} (hn:P.globalNamed name = some b) (h:Lib.TabIs P w name k zs) : ∃ o,w.heap[b]? = some o ∧ tabIs k zs o:=by
 unfold Lib.TabIs World.var? at h
 rw [hn] at h
 simp only [Option.bind_some] at h
 split at h
 ·rename_i cs t g h1
  injection h with h
  exact ⟨_,h1,t,g,by rw [h]⟩
 ·cases h
theorem glob_tab {P:Program} {D:AId → Prop} {m:AId → Option Blk} {ok:Nat → Prop} {heap:AId → Option AObj} {w:World} {b:Nat} {k:IntKind} {zs:List Int} {name:String} (hn:P.globalNamed name = some b) (hg:(b,tabIs k zs) ∈ Gs) (hH:SimH D m ok heap w):Lib.TabIs P w name k zs:=by
 obtain ⟨_,o,h1,t,g,rfl⟩:=hH.glob _ hg
 unfold Lib.TabIs World.var?
 rw [hn]
 simp only [Option.bind_some]
 rw [h1]
theorem reps_int {w:World} {ok:Nat → Prop} {D:AId → Prop} {m:AId → Option Blk} {k:IntKind} {n:Int} {vs:List Value} (hr:Reps w ok D m false [.int k n] vs):vs = [.int k n]:=by
 obtain ⟨hl,h⟩:=hr
 match vs,hl with
 | [a],_ =>
  have h0:=h 0 _ _ rfl rfl
  cases h0; rfl
theorem drewN_below (w:World) (n:Nat):Below w.heap.size w (w.drewN n):=⟨rfl,rfl,rfl,Nat.le_refl _,fun _ _=>rfl⟩
theorem join_ok {P:Program} {ρ:Ren} (L:Lays.n156 P ρ) (X:Builder.Extra P ρ) (hE:Enters P (ρ.f 156)) (xs:List ByteArray) (sep:ByteArray) (hN:xs.length ≤ 140737488355328) (hlen:(joinS xs sep).size ≤ 281474976710656) :
  FnOk P (ρ.f 156) [.ro 1 (xs.map fun x=>[.str x]),.str sep] [] 0 (.str (joinS xs sep)) [] 0:=by
 refine FnOk.of_below hE fun m ok w vs hH hr=>?_
 obtain ⟨hl,h⟩:=hr
 match vs,hl with
 | [a,b],_ =>
  have h0:=h 0 _ _ rfl rfl
  have h1:=h 1 _ _ rfl rfl
  cases h1
  cases h0 with
  | @ro _ _ _ A n cap ad vs hn hc hm hs hA hcell hrep =>
   simp only [List.length_map] at hn
   subst hn
   have hlen':(Lib.join (xs.map (·.data.toList)) sep.data.toList).length ≤ 281474976710656:=by simpa [joinS,bytesOf,ByteArray.size] using hlen
   by_cases h0:xs = []
   ·subst h0
    refine (Any.strings_Join_none L X A cap sep w).mono ?_
    rintro e w' ⟨rfl,rfl⟩
    exact ⟨_,rfl,Below.refl _ _,.str⟩
   ·have hpos:0 < xs.length:=List.length_pos_iff.2 h0
    obtain rfl:=hA hpos
    have hcells : ∀ (j:Nat) x,xs[j]? = some x → w.cell? (ad.add j) = some (.string x):=by
     intro j x hx
     obtain ⟨_,c2,c3⟩:=hcell j 0 [.str x] (.str x) (by rw [List.getElem?_map,hx]; rfl) rfl
     have c4:=hrep j 0 [.str x] (.str x) (by rw [List.getElem?_map,hx]; rfl) rfl
     generalize vs j 0 = V at c2 c4
     cases c4
     simpa using c2
    obtain ⟨x0,hx0⟩ : ∃ x,xs[0]? = some x:=⟨_,List.getElem?_eq_getElem hpos⟩
    have hc0:=hcells 0 x0 hx0
    have hlt:=cell_lt hc0
    obtain ⟨bk,o,sp⟩:=ad
    have hsp:sp = none:=by
     cases sp with
     | none=>rfl
     | some q=>simp only [Addr.add,if_true] at hc0; unfold World.cell? at hc0; split at hc0 <;> simp at hc0
    subst hsp
    have hcells' : ∀ (j:Nat) x,xs[j]? = some x → w.cell? ⟨bk,o + j,none⟩ = some (.string x):=by
     intro j x hx
     have:=hcells j x hx
     have e:(⟨bk,o,none⟩ : Addr).add j = ⟨bk,o + j,none⟩:=by
      simp only [Addr.add]
      split <;> simp_all
     rwa [e] at this
    refine (Any.strings_Join_48 L X bk o cap xs sep w hcells' hlt hN hc hlen').mono ?_
    rintro e w' ⟨rfl,hb⟩
    exact ⟨_,rfl,hb,.str⟩
theorem grow_below (w:World) (k:Nat) (os:Array Obj):Below w.heap.size w (Sort.grow (w.drewN k) os) :=
 (drewN_below w k).trans ⟨rfl,rfl,rfl,by simp [Sort.grow],fun b hb=>by simp only [Sort.grow]; rw [Array.getElem?_append_left (by simpa using hb)]⟩
theorem itoa_ok {P:Program} {ρ:Ren} (L:LaysM.n171 P ρ) (hE:Enters P (ρ.f 171)) {b:Nat} (hn:P.globalNamed "internal/strconv.uint64pow10" = some b) (hg:(b,tabIs .u64 Lib.pow10Tab) ∈ Gs) (n:Int) (h0 : -9223372036854775808 ≤ n) (h1:n ≤ 9223372036854775807) :
  FnOk P (ρ.f 171) [.int .i64 n] [] 0 (.str (itoaS n)) [] 0:=by
 refine FnOk.of_below hE fun m ok w vs hH hr=>?_
 obtain rfl:=reps_int hr
 refine (Any.strconv_Itoa L n h0 h1 w (glob_tab hn hg hH)).mono ?_
 rintro e w' ⟨rfl,k,os,rfl⟩
 rw [itoaS_eq h0 h1]
 exact ⟨_,rfl,grow_below w k os,.str⟩
theorem joinO_ok {P:Program} {ρ:Ren} (L:Lays.n156 P ρ) (X:Builder.Extra P ρ) (hE:Enters P (ρ.f 156)) (xs:List ByteArray) (sep R:ByteArray) (hR:joinO xs sep = some R) :
  FnOk P (ρ.f 156) [.ro 1 (xs.map fun x=>[.str x]),.str sep] [] 0 (.str R) [] 0:=by
 unfold joinO at hR
 split at hR
 ·rename_i h; injection hR with hR; subst hR; exact join_ok L X hE xs sep h.1 h.2
 ·cases hR
theorem itoaO_ok {P:Program} {ρ:Ren} (L:LaysM.n171 P ρ) (hE:Enters P (ρ.f 171)) {b:Nat} (hn:P.globalNamed "internal/strconv.uint64pow10" = some b) (hg:(b,tabIs .u64 Lib.pow10Tab) ∈ Gs) (n:Int) (R:ByteArray) (hR:itoaO n = some R) :
  FnOk P (ρ.f 171) [.int .i64 n] [] 0 (.str R) [] 0:=by
 unfold itoaO at hR
 split at hR
 ·rename_i h; injection hR with hR; subst hR; exact itoa_ok L hE hn hg n h.1 h.2
 ·cases hR
end Go.Proofs.YtakallenldpkiaaGreatDoor.Abs
end
section
set_option linter.unusedVariables false
set_option linter.unusedSimpArgs false
namespace Go.Proofs.YtakallenldpkiaaGreatDoor.Abs
open Go Go.RowKit Go.Shelf Go.Lib Go.Sort
theorem leafRep {w:World} {ok:Nat → Prop} {D:AId → Prop} {m:AId → Option Blk} {cl:Bool} {k:LK} {p:PVal} (h:leafIs k p = true):Rep w ok D m cl p (leafVal p):=by
 cases k <;> cases p <;> simp [leafIs] at h <;> constructor
theorem leafOne {k:LK} {p:PVal} (h:leafIs k p = true):(leafVal p).oneCell' = true:=by
 cases k <;> cases p <;> simp [leafIs] at h <;> rfl
theorem flatLeaf : ∀ {ks:List LK} {ps:List PVal} {b:Bool},flatEq ks ps ps = some b → ∀ p ∈ ps,∃ k,leafIs k p = true:=by
 intro ks
 induction ks with
 | nil =>
  intro ps b hb p hp
  obtain ⟨e1,_⟩:=flatEq_len hb
  obtain rfl:=List.eq_nil_of_length_eq_zero e1
  cases hp
 | cons k ks ih =>
  intro ps b hb p hp
  match ps with
  | []=>cases hp
  | q :: ps =>
   simp only [flatEq] at hb
   split at hb
   ·rename_i hk
    split at hb
    ·rename_i a b' h1 h2
     rcases List.mem_cons.1 hp with rfl | hp
     ·exact ⟨k,hk.1⟩
     ·exact ih h2 p hp
    ·cases hb
   ·cases hb
theorem world_grow {w w':World} (h1:w'.os = w.os) (h2:w'.tape = w.tape) (h3:w'.output = w.output) (h4:w.heap.size ≤ w'.heap.size) (h5 : ∀ b,b < w.heap.size → w'.heap[b]? = w.heap[b]?) (h6:w.drawn ≤ w'.drawn) :
  w' = grow (w.drewN (w'.drawn - w.drawn)) (w'.heap.extract w.heap.size w'.heap.size):=by
 have hh:w'.heap = w.heap ++ w'.heap.extract w.heap.size w'.heap.size:=by
  apply Array.ext_getElem?
  intro i
  rw [Array.getElem?_append]
  split
  ·rename_i hi; exact h5 i hi
  ·rename_i hi
   rw [Array.getElem?_extract]
   by_cases hj:i < w'.heap.size
   ·rw [if_pos (by omega),show w.heap.size + (i - w.heap.size) = i by omega]
   ·rw [if_neg (by omega)]
    exact Array.getElem?_eq_none (by omega)
 have hd:w.drawn + (w'.drawn - w.drawn) = w'.drawn:=by omega
 unfold grow World.drewN
 cases w'
 cases w
 simp only at h1 h2 h3 hh hd ⊢
 subst h1 h2 h3
 simp only [World.mk.injEq,true_and,and_true]
 exact ⟨hh,hd.symm⟩
theorem sort_ok {P:Program} {ρ:Ren} (L6:SlLaysF0.n6 P ρ) (hE:Enters P (ρ.f 6)) {sz:Nat} (hsz:0 < sz) (aE : ∀ w,(isAgg (ρ.t 24)).run P w = .ok true w) (zE : ∀ w,(Go.sizeOf (ρ.t 24)).run P w = .ok sz w)
  {α:Type} [Inhabited α] {c:α → List PVal} {ks:List LK} (hks : ∀ x,∃ b,flatEq ks (c x) (c x) = some b) (hlen : ∀ x,(c x).length = sz) (cf:α → α → Int) (hO:SWO (ltOf cf)) (hT : ∀ x y,(ltOf cf) x y = false → (ltOf cf) y x = false → x = y)
  (g:FuncId) (hg : ∀ x y,@FnOk ⟨true⟩ P g [.agg (c x),.agg (c y)] [] 0 (.int .i64 (cf x y)) [] 0) (ty:TypeId) (L:List α) (hL:L.length < 4611686018427387904) :
  FnOk P (ρ.f 6) [.own 0 sz 0 L.length,.fn g [] []] [(0,.row sz ty (L.map c))] 1 (.tup []) [(0,.row sz ty ((sortQ cf L).map c))] 1:=by
 refine ⟨hE,Nat.le_refl _,fun m ok w vs hH hr=>?_⟩
 obtain ⟨hl,hr⟩:=hr
 match vs,hl with
 | [a,f],_ =>
 have h0:=hr 0 _ _ rfl rfl
 have h1:=hr 1 _ _ rfl rfl
 have hf:f = .func (.func g) #[] #[]:=by
  cases h1 with
  | fn hl1 hl2 _ _ =>
   obtain rfl:=List.eq_nil_of_length_eq_zero hl1.symm
   obtain rfl:=List.eq_nil_of_length_eq_zero hl2.symm
   rfl
 subst hf
 cases h0 with
 | own hd ho hv =>
 obtain ⟨B,hB,hob⟩:=hH.obj 0 _ rfl
 have hval:=hv B hB
 have heg : ∀ args w,(callFunc g args).run P w = .ok (.enter g args) w:=fun args w=>(hg default default).1 args w
 cases B with
 | nil =>
  obtain ⟨⟨A,rfl⟩,_,hn⟩:=hval
  have hLn:L = []:=List.eq_nil_of_length_eq_zero hn
  subst hLn
  refine (AnyF.slices_SortFunc_none L6 A 0 _ w).mono ?_
  rintro e w' ⟨rfl,rfl⟩
  refine ⟨_,m,rfl,?_,.tup (vs:=[]) rfl (fun i p v hp=>by simp at hp),Step.refl m w',Mon.refl _ m⟩
  have:sortQ cf ([]:List α) = []:=by simp [sortQ]
  rw [this]
  exact hH
 | «at» b tot =>
  obtain ⟨ad,cap,rfl,e1,e2,e3,e4,e5,e6⟩:=hval
  have hob':=hob
  obtain ⟨vs,g1,g2,g3,g4,g5,g6,g7⟩:=hob
  have had:ad = ⟨b,0,none⟩:=by
   obtain ⟨ab,ao,asp⟩:=ad
   simp only at e1 e2
   subst e1 e2
   rcases e3 with e3 | ⟨_,e3⟩
   ·simp only [Nat.zero_mul] at e3
    subst e3
    rfl
   ·omega
  subst had
  rw [List.length_map] at g3
  have hlt:b < w.heap.size:=hH.lt 0 b tot hB
  have hen : ∀ x:α,((c x).map leafVal).length = sz:=fun x=>by rw [List.length_map]; exact hlen x
  have hone : ∀ x:α,∀ v ∈ (c x).map leafVal,v.oneCell' = true:=by
   intro x v hv
   obtain ⟨p,hp,rfl⟩:=List.mem_map.1 hv
   obtain ⟨bb,hbb⟩:=hks x
   obtain ⟨k,hk⟩:=flatLeaf hbb p hp
   exact leafOne hk
  have hcell : ∀ (i j:Nat) (x:α) (p:PVal),L[i]? = some x → (c x)[j]? = some p → vs[i * sz + j]? = some (leafVal p):=by
   intro i j x p hx hp
   obtain ⟨v,h1,h2,h3⟩:=g7 i j (c x) p (by rw [List.getElem?_map,hx]; rfl) hp
   obtain ⟨bb,hbb⟩:=hks x
   obtain ⟨k,hk⟩:=flatLeaf hbb p (List.mem_of_getElem? hp)
   rw [h1,leaf_of h3 hk]
  have hH0:HoldsK (fun x=>(c x).map leafVal) sz w b 0 L.toArray:=by
   intro t ht
   simp only [size_flatK,List.size_toArray] at ht
   have hti:t / sz < L.length:=(Nat.div_lt_iff_lt_mul hsz).2 ht
   have htj:t % sz < sz:=Nat.mod_lt _ hsz
   have hx:L[t / sz]? = some L[t / sz]:=List.getElem?_eq_getElem hti
   have hpj:t % sz < (c L[t / sz]).length:=by rw [hlen]; exact htj
   have:=hcell (t / sz) (t % sz) _ _ hx (List.getElem?_eq_getElem hpj)
   rw [Nat.mul_comm,Nat.div_add_mod] at this
   refine ⟨?_,by simp [World.frozen?,g1]⟩
   rw [Nat.zero_add]
   simp only [World.cell?,g1,this,id]
   rw [get_flatK _ _ _ _ (by first | exact ht | simpa using ht)]
   rw [getElem!_pos L.toArray (t / sz) (by simpa using hti)]
   simp only [List.getElem_toArray]
   rw [getElem!_pos _ (t % sz) (by rw [hen]; exact htj)]
   simp
  have hcmp:CmpLays P g #[] (fun x=>(c x).map leafVal) sz cf b 0 L.toArray.size w:=by
   intro q os dk hdk x y
   have hW : ∀ k o,k ≠ b → w.heap[k]? = some o → (sortWorldK (fun x=>(c x).map leafVal) sz w b 0 q dk os).heap[k]? = some o:=by
    intro k o hk ho
    have hks:k < w.heap.size:=(Array.getElem?_eq_some_iff.1 ho).1
    simp only [sortWorldK,grow,putRowK,putRow,mapBlock,Sort.ahead]
    rw [Array.getElem?_append,if_pos (by simpa using hks),Array.getElem?_modify,if_neg (fun e=>hk e.symm)]
    exact ho
   have hS:SimH (· < 0) (fun _=>none) (fun _=>True) (fun i=>([]:List (AId × AObj)).lookup i) (sortWorldK (fun x=>(c x).map leafVal) sz w b 0 q dk os) :=
    SimH.empty fun z hz=>by
     obtain ⟨h2,o,h3,h4⟩:=hH.glob z hz
     exact ⟨o,hW z.1 o (fun e=>h2 0 tot (by rw [e]; exact hB)) h3,h4⟩
   have hra : ∀ z:α,Rep (sortWorldK (fun x=>(c x).map leafVal) sz w b 0 q dk os) (okn (fun _=>True) fun _=>none) (· < 0) (fun _=>none) false (.agg (c z)) (.agg ((c z).map leafVal).toArray):=fun z=>by
    refine .agg (by simp) (hone z) fun i p v hp hv=>?_
    rw [List.getElem?_map,hp] at hv
    injection hv with hv
    subst hv
    obtain ⟨bb,hbb⟩:=hks z
    obtain ⟨k,hk⟩:=flatLeaf hbb p (List.mem_of_getElem? hp)
    exact leafRep hk
   have:=(hg x y).2.2 (fun _=>none) (fun _=>True) _ [.agg ((c x).map leafVal).toArray,.agg ((c y).map leafVal).toArray] hS (Reps.cons (hra x) (Reps.cons (hra y) (Reps.nil ..)))
   refine this.mono ?_
   rintro e w' ⟨v,m',rfl,_,hv,⟨s1,⟨t1,t2⟩,s3,s4,s5,_⟩,_⟩
   have hv':v = .int .i64 (cf x y):=by cases hv; rfl
   subst hv'
   exact ⟨rfl,_,_,world_grow s1 t1 s3 s4 (fun b hb=>s5 b hb (fun _ _ h=>by cases h)) (t2 rfl)⟩
  refine (AnyQ.slices_SortFunc_total L6 sz aE zE (fun x=>(c x).map leafVal) hen hone cf hO g #[] b 0 cap L.toArray w heg hcmp hH0 hlt (by simpa using hL) hT).mono ?_
  rintro e w' ⟨rfl,q,os,rfl⟩
  have hmm:(L.toArray.toList.mergeSort fun x y=>!(ltOf cf) y x) = sortQ cf L:=rfl
  rw [hmm]
  have hll:(sortQ cf L).length = L.length:=List.length_mergeSort ..
  generalize hL2:sortQ cf L = L2 at hll ⊢
  have hF : ∀ (i j:Nat) (x:α) (p:PVal),L2[i]? = some x → (c x)[j]? = some p → (putCells id 0 (Go.Sort.flatK (fun x=>(c x).map leafVal) sz L2.toArray) vs)[i * sz + j]? = some (leafVal p):=by
   intro i j x p hx hp
   have hi:=(List.getElem?_eq_some_iff.1 hx).1
   have hj:=(List.getElem?_eq_some_iff.1 hp).1
   rw [hlen] at hj
   have ht:i * sz + j < L2.length * sz:=by
    have h1:(i + 1) * sz ≤ L2.length * sz:=Nat.mul_le_mul_right _ hi
    rw [Nat.add_mul,Nat.one_mul] at h1
    omega
   have hvs:i * sz + j < vs.size:=by
    rw [g2]
    have h1:L2.length * sz ≤ tot * sz:=Nat.mul_le_mul_right _ (by omega)
    omega
   unfold putCells
   rw [Array.getElem?_mapIdx,Array.getElem?_eq_getElem hvs]
   simp only [Option.map_some,size_flatK,List.size_toArray,Nat.zero_le,Nat.zero_add,true_and,ht,if_true,Nat.sub_zero,id]
   rw [get_flatK _ _ _ _ (by first | exact ht | simpa using ht)]
   have hd:(i * sz + j) / sz = i:=by rw [Nat.add_comm,Nat.add_mul_div_right _ _ hsz,Nat.div_eq_of_lt hj,Nat.zero_add]
   have hm:(i * sz + j) % sz = j:=by rw [Nat.add_comm,Nat.add_mul_mod_self_right,Nat.mod_eq_of_lt hj]
   rw [hd,hm,getElem!_pos L2.toArray i (by simpa using hi)]
   simp only [List.getElem_toArray]
   have hxi:L2[i] = x:=by
    have:=List.getElem?_eq_getElem hi
    rw [hx] at this
    injection this with this
    exact this.symm
   rw [hxi,getElem!_pos _ j (by rw [hen]; exact hj)]
   simp only [List.getElem_map,Option.some.injEq]
   have hpj:=(List.getElem?_eq_some_iff.1 hp)
   obtain ⟨hpj1,hpj2⟩:=hpj
   rw [hpj2]
  have hb':(sortWorldK (fun x=>(c x).map leafVal) sz w b 0 q L2.toArray os).heap[b]? = some (.cells (putCells id 0 (Go.Sort.flatK (fun x=>(c x).map leafVal) sz L2.toArray) vs) ty (0,0)):=by
   simp only [sortWorldK,grow,putRowK,putRow,mapBlock,Sort.ahead]
   rw [Array.getElem?_append,if_pos (by simpa using hlt),Array.getElem?_modify,if_pos rfl,g1]
   rfl
  have hk' : ∀ k,k ≠ b → k < w.heap.size → (sortWorldK (fun x=>(c x).map leafVal) sz w b 0 q L2.toArray os).heap[k]? = w.heap[k]?:=by
   intro k hk hks
   simp only [sortWorldK,grow,putRowK,putRow,mapBlock,Sort.ahead]
   rw [Array.getElem?_append,if_pos (by simpa using hks),Array.getElem?_modify,if_neg (fun e=>hk e.symm)]
  have hsz':w.heap.size ≤ (sortWorldK (fun x=>(c x).map leafVal) sz w b 0 q L2.toArray os).heap.size:=by
   simp [sortWorldK,grow,putRowK,putRow,mapBlock,Sort.ahead]
  have hm':(fun i=>if i = 0 then some (Blk.at b tot) else if some 0 = some i then none else m i) = m:=by
   funext i
   by_cases e:i = 0
   ·subst e; simp [hB]
   ·have : ¬ 0 = i:=fun e'=>e e'.symm
    simp [e,this]
  have hD':(fun i=>i < 1 ∨ i = 0) = (fun i=>i < 1):=by
   funext i
   exact propext ⟨fun h=>h.elim (fun h=>h) (fun h=>by omega),.inl⟩
  obtain ⟨k1,k2,k3⟩:=hH.reloc (w':=sortWorldK (fun x=>(c x).map leafVal) sz w b 0 q L2.toArray os) (some 0) 0 (.at b tot) (.row sz ty (L2.map c)) rfl ⟨rfl,fun _=>Nat.le_add_right _ _⟩ rfl hsz'
   (fun k hks hn=>hk' k (fun e=>hn 0 tot rfl (by rw [e]; exact hB)) hks) (.inl ⟨rfl,hB⟩)
   (fun b' t' e=>by injection e with e1 e2; subst e1; exact ⟨Nat.lt_of_lt_of_le hlt hsz',.inr ⟨0,tot,rfl,hB⟩⟩)
   (fun hst=>by
    refine ⟨_,hb',by rw [← g2]; simp [putCells],by rw [List.length_map,hll]; exact g3,g4,g5,fun e he=>?_,fun i j e p he hp=>?_⟩
    ·obtain ⟨x,_,rfl⟩:=List.mem_map.1 he
     exact hlen x
    ·rw [List.getElem?_map] at he
     cases hx:L2[i]? with
     | none=>rw [hx] at he; cases he
     | some x =>
      rw [hx] at he
      injection he with he
      subst he
      obtain ⟨bb,hbb⟩:=hks x
      obtain ⟨k,hk⟩:=flatLeaf hbb p (List.mem_of_getElem? hp)
      exact ⟨leafVal p,hF i j x p hx hp,leafOne hk,leafRep hk⟩)
  rw [hm'] at k1 k2
  rw [hD'] at k1
  refine ⟨_,m,rfl,?_,.tup (vs:=[]) rfl (fun i p v hp=>by simp at hp),k2,Mon.refl _ m⟩
  have he:(fun i=>([(0,AObj.row sz ty (L2.map c))]:List (AId × AObj)).lookup i) = (fun i=>if i = 0 then some (AObj.row sz ty (L2.map c)) else if some 0 = some i then none else ([(0,AObj.row sz ty (L.map c))]:List (AId × AObj)).lookup i):=by
   funext i
   by_cases e:i = 0
   ·subst e; rfl
   ·have h1:(i == 0) = false:=by simpa using e
    have : ¬ 0 = i:=fun e'=>e e'.symm
    simp [List.lookup,h1,e,this]
  rw [he]
  exact k1
end Go.Proofs.YtakallenldpkiaaGreatDoor.Abs
end
