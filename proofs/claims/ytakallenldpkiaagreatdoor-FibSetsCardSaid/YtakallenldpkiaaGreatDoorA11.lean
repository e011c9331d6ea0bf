/- Regions: from the effects of their operations to the model's regions, in the text's order and in whatever order their edges allow. Generic over any program. -/
import Derived.Test.YtakallenldpkiaaGreatDoorA10
set_option linter.unusedVariables false
set_option linter.unusedSimpArgs false
set_option linter.unusedSectionVars false
namespace Go.Proofs.YtakallenldpkiaaGreatDoor.Abs
open Go
variable [DqC]
def dirOf (ops:Array Oper) (j:Nat):List Nat:=match ops[j]? with
 | some o=>(o.after.toList.filter fun e=>Region.binds .any e).map (·.on)
 | none=>[]
def Bf (ops:Array Oper) (i j:Nat):Prop:=∀ S:Nat → Bool,(∀ k,S k = true → ∀ d ∈ dirOf ops k,S d = true) → (∀ d ∈ dirOf ops j,S d = true) → S i = true
section
variable {P:Program} {ops:Array Oper} {n:Nat} {ds:List Deferred} {rr:Option Nat} {es:List Eff} {env0:Env} {heap0:Heap} {D0:AId → Prop} {m0:AId → Option Blk} {ok:Nat → Prop} {w0:World} {Q:Exit → Act → World → Prop}
def Inv (n:Nat) (ds:List Deferred) (es:List Eff) (env0:Env) (heap0:Heap) (D0:AId → Prop) (m0:AId → Option Blk) (ok:Nat → Prop) (w0:World) (S:Nat → Bool) (a:Act) (w:World):Prop :=
 ∃ (D:AId → Prop) (m:AId → Option Blk),Sim n ds D m ok (envL es S 0 env0) (heapL es S 0 heap0) a w ∧ Step m0 w0 m w ∧ Mon D0 m0 m ∧ ∀ id,D id ↔ D0 id ∨ ∃ (i:Nat) (e:Eff),S i = true ∧ es[i]? = some e ∧ id ∈ e.nw
theorem Inv.congr {S S':Nat → Bool} {a:Act} {w:World} (h:Inv n ds es env0 heap0 D0 m0 ok w0 S a w) (hS : ∀ i,i < es.length → S i = S' i):Inv n ds es env0 heap0 D0 m0 ok w0 S' a w:=by
 obtain ⟨D,m,h1,h2,hM,h3⟩:=h
 have e1:envL es S 0 env0 = envL es S' 0 env0:=funext fun t=>envL_agree es S S' 0 t _ _ rfl fun j e he _=>by rw [Nat.zero_add]; exact hS j (List.getElem?_eq_some_iff.1 he).1
 have e2:heapL es S 0 heap0 = heapL es S' 0 heap0:=funext fun t=>heapL_agree es S S' 0 t _ _ rfl fun j e he _=>by rw [Nat.zero_add]; exact hS j (List.getElem?_eq_some_iff.1 he).1
 rw [e1,e2] at h1
 refine ⟨D,m,h1,h2,hM,fun id=>(h3 id).trans ?_⟩
 constructor
 ·rintro (h | ⟨i,e,a1,a2,a3⟩)
  ·exact .inl h
  ·exact .inr ⟨i,e,by rw [← hS i (List.getElem?_eq_some_iff.1 a2).1]; exact a1,a2,a3⟩
 ·rintro (h | ⟨i,e,a1,a2,a3⟩)
  ·exact .inl h
  ·exact .inr ⟨i,e,by rw [hS i (List.getElem?_eq_some_iff.1 a2).1]; exact a1,a2,a3⟩
structure RegOk (P:Program) (ops:Array Oper) (n:Nat) (es:List Eff) (env0:Env) (heap0:Heap) (D0:AId → Prop):Prop where
 len:es.length = ops.size
 op : ∀ (i:Nat) (e:Eff),es[i]? = some e → OpSem P ops i n e (envL es (fun j=>decide (j < i)) 0 env0) (heapL es (fun j=>decide (j < i)) 0 heap0)
 new0 : ∀ (i:Nat) (e:Eff) (id:AId),es[i]? = some e → id ∈ e.nw → ¬ D0 id
 new : ∀ (i j:Nat) (e f:Eff) (id:AId),es[i]? = some e → es[j]? = some f → id ∈ e.nw → id ∈ f.nw → i = j
theorem RegOk.step (h:RegOk P ops n es env0 heap0 D0) {S:Nat → Bool} {i:Nat} {e:Eff} (he:es[i]? = some e) (hi:S i = false) {a:Act} {w:World} (hI:Inv n ds es env0 heap0 D0 m0 ok w0 S a w)
  (hlo : ∀ j f,j < i → es[j]? = some f → S j = true ∨ indep f e = true) (hhi : ∀ j f,i < j → es[j]? = some f → S j = false ∨ indep e f = true)
  (hrc : ∀ x ∈ e.rc,cellAt x.2 (heapL es S 0 heap0 x.1) = cellAt x.2 (heapL es (fun j=>decide (j < i)) 0 heap0 x.1)) {K:Act → World → Prop}
  (hK : ∀ a' w',Inv n ds es env0 heap0 D0 m0 ok w0 (fun j=>if j = i then true else S j) a' w' → K a' w'):wpOpIn (Fe rr) 0 P ops Q i K a w:=by
 obtain ⟨D,m,h1,h2,hM,h3⟩:=hI
 refine (h.op i e he).2 rr ds D m ok _ _ a w Q K h1 (fun t ht=>?_) (fun id hid=>?_) hrc (fun id hid hD=>?_) (fun D' m' a' w' g1 g2 gM g3=>hK a' w' ⟨D',m',?_,h2.trans g2,hM.trans gM fun id hd=>(h3 id).2 (.inl hd),fun id=>?_⟩)
 ·refine envL_agree es _ _ 0 t _ _ rfl (fun j f hf hw=>?_)
  rw [Nat.zero_add]
  rcases Nat.lt_trichotomy j i with hj | hj | hj
  ·rcases hlo j f hj hf with hS | hin
   ·rw [hS]; simp [hj]
   ·exact absurd ht ((indep_spec hin).1 t hw).1
  ·subst hj; rw [hi]; simp
  ·rcases hhi j f hj hf with hS | hin
   ·rw [hS]; simp; omega
   ·exact absurd ht ((indep_spec hin).2.1 t hw)
 ·refine heapL_agree es _ _ 0 id _ _ rfl (fun j f hf hw=>?_)
  rw [Nat.zero_add]
  rcases Nat.lt_trichotomy j i with hj | hj | hj
  ·rcases hlo j f hj hf with hS | hin
   ·rw [hS]; simp [hj]
   ·exact absurd hid ((indep_spec hin).2.2.1 id hw).1
  ·subst hj; rw [hi]; simp
  ·rcases hhi j f hj hf with hS | hin
   ·rw [hS]; simp; omega
   ·exact absurd hid ((indep_spec hin).2.2.2 id hw)
 ·rcases (h3 id).1 hD with hd | ⟨j,f,a1,a2,a3⟩
  ·exact h.new0 i e id he hid hd
  ·have:=h.new i j e f id he a2 hid a3
   subst this
   rw [hi] at a1; cases a1
 ·have e1:=envL_insert es S (fun j=>if j = i then true else S j) 0 i e env0 he (by rw [Nat.zero_add]; exact hi) (fun j=>by rw [Nat.zero_add]) (fun j f t hij hf hS hw hw'=>by
   rw [Nat.zero_add] at hS
   rcases hhi j f hij hf with hS' | hin
   ·rw [hS'] at hS; cases hS
   ·exact ((indep_spec hin).1 t hw).2 hw')
  have e2:=heapL_insert es S (fun j=>if j = i then true else S j) 0 i e heap0 he (by rw [Nat.zero_add]; exact hi) (fun j=>by rw [Nat.zero_add]) (fun j f t hij hf hS hw hw'=>by
   rw [Nat.zero_add] at hS
   rcases hhi j f hij hf with hS' | hin
   ·rw [hS'] at hS; cases hS
   ·exact ((indep_spec hin).2.2.1 t hw).2 hw')
  rw [e1,e2]
  exact g1
 ·rw [g3,h3]
  constructor
  ·rintro ((hd | ⟨j,f,a1,a2,a3⟩) | hid)
   ·exact .inl hd
   ·exact .inr ⟨j,f,by simp [a1],a2,a3⟩
   ·exact .inr ⟨i,e,by simp,he,hid⟩
  ·rintro (hd | ⟨j,f,a1,a2,a3⟩)
   ·exact .inl (.inl hd)
   ·by_cases hj:j = i
    ·subst hj
     rw [he] at a2
     injection a2 with a2
     subst a2
     exact .inr a3
    ·simp only [hj,if_false] at a1
     exact .inl (.inr ⟨j,f,a1,a2,a3⟩)
theorem RegOk.seq (h:RegOk P ops n es env0 heap0 D0) (hQ : ∀ a w,Inv n ds es env0 heap0 D0 m0 ok w0 (fun _=>true) a w → Q .normal a w) : ∀ (r k:Nat),k + r = ops.size → ∀ a w,Inv n ds es env0 heap0 D0 m0 ok w0 (fun j=>decide (j < k)) a w →
  wpOpsIn (Fe rr) 0 P ops Q (List.range' k r) a w
 | 0,k,hk,a,w,hI=>hQ a w (hI.congr fun i hi=>by have:=h.len; simp; omega)
 | r + 1,k,hk,a,w,hI=>by
  rw [List.range'_succ,wpOpsIn_cons]
  have hlt:k < es.length:=by rw [h.len]; omega
  refine h.step (List.getElem?_eq_getElem hlt) (by simp) hI (fun j f hj _=>.inl (by simp [hj])) (fun j f hj _=>.inl (by simp; omega)) (fun _ _=>rfl) (fun a' w' hI'=>RegOk.seq h hQ r (k + 1) (by omega) a' w' (hI'.congr fun i _=>?_))
  by_cases hik:i = k
  ·simp [hik]
  ·simp only [hik,if_false]
   by_cases hlt:i < k
   ·simp [hlt]; omega
   ·simp [hlt]; omega
theorem ready_iff {listed:Array Bool} {i:Nat}:i ∈ Region.ready .any ops listed ↔ i < ops.size ∧ listed.getD i true = false ∧ ∀ d ∈ dirOf ops i,listed.getD d false = true:=by
 unfold Region.ready dirOf
 rw [List.mem_filter,List.mem_range]
 refine and_congr_right fun hi=>?_
 rw [Array.getElem?_eq_getElem hi]
 simp only [Option.map_some,Option.getD_some,Bool.and_eq_true,Bool.not_eq_true',List.mem_map,List.mem_filter]
 refine and_congr_right fun _=>?_
 rw [Array.all_eq_true']
 constructor
 ·rintro hall d ⟨e,⟨he,hb⟩,rfl⟩
  have:=hall e (by simpa using he)
  simpa [hb] using this
 ·intro hall e he
  cases hb:Region.binds .any e with
  | false=>simp
  | true=>simpa [hb] using hall e.on ⟨e,⟨by simpa using he,hb⟩,rfl⟩
theorem RegOk.cells (h:RegOk P ops n es env0 heap0 D0) (hr:rcOk es = true) {i:Nat} {e:Eff} (he:es[i]? = some e) {x:AId × Nat} (hx:x ∈ e.rc) (L:Nat → Bool):cellAt x.2 (heapL es L 0 heap0 x.1) = cellAt x.2 (heap0 x.1):=by
 have hk : ∀ (j:Nat) (f:Eff),es[j]? = some f → writesH f x.1 → x ∈ f.kc:=by
  intro j f hf hw
  have:=List.all_eq_true.1 (List.all_eq_true.1 (List.all_eq_true.1 hr e (List.mem_of_getElem? he)) x hx) f (List.mem_of_getElem? hf)
  unfold writesH at hw
  rcases (Bool.or_eq_true _ _).mp this with h1 | h1
  ·simp only [Bool.not_eq_true',List.contains_eq_mem,decide_eq_false_iff_not] at h1
   exact absurd hw h1
  ·simpa using h1
 have hj : ∀ (j:Nat) (f:Eff),es[j]? = some f → writesH f x.1 → ∀ h',cellAt x.2 (happ f.wh h' x.1) = cellAt x.2 (heap0 x.1):=by
  intro j
  induction j using Nat.strongRecOn with
  | _ j ih =>
   intro f hf hw h'
   rw [happ_of hw h' (heapL es (fun q=>decide (q < j)) 0 heap0),(h.op j f hf).1 x (hk j f hf hw)]
   refine heapL_cell es _ 0 heap0 rfl (fun q g hg hL hwg=>ih q ?_ g hg hwg)
   simpa using hL
 exact heapL_cell es L 0 heap0 rfl fun j f hf _ hw=>hj j f hf hw
theorem RegOk.any (h:RegOk P ops n es env0 heap0 D0) (hlow : ∀ j,∀ d ∈ dirOf ops j,d < j) (hord : ∀ (i j:Nat) (e f:Eff),i < j → es[i]? = some e → es[j]? = some f → Bf ops i j ∨ indep e f = true) (hrc:rcOk es = true)
  (hQ : ∀ a w,Inv n ds es env0 heap0 D0 m0 ok w0 (fun _=>true) a w → Q .normal a w) : ∀ (fuel:Nat) (listed:Array Bool) (a:Act) (w:World),listed.size = ops.size → (List.range ops.size).countP (fun k=>!listed.getD k true) ≤ fuel →
   (∀ k,listed.getD k false = true → ∀ d ∈ dirOf ops k,listed.getD d false = true) → Inv n ds es env0 heap0 D0 m0 ok w0 (fun k=>listed.getD k false) a w → wpAnyIn (Fe rr) 0 P .any ops Q fuel listed a w:=by
 have hboth : ∀ (listed:Array Bool) (k:Nat),listed.size = ops.size → k < ops.size → listed.getD k false = listed.getD k true:=by
  intro listed k hs hk
  simp [Array.getD,hs,hk]
 have hall : ∀ (listed:Array Bool),listed.size = ops.size → Region.ready .any ops listed = [] → ∀ k,k < ops.size → listed.getD k false = true:=by
  intro listed hs hr k
  induction k using Nat.strongRecOn with
  | _ k ih =>
   intro hk
   cases hl:listed.getD k false with
   | true=>rfl
   | false =>
    have:k ∈ Region.ready .any ops listed:=ready_iff.2 ⟨hk,by rw [← hboth listed k hs hk]; exact hl,fun d hd=>ih d (hlow k d hd) (by have:=hlow k d hd; omega)⟩
    rw [hr] at this
    cases this
 have hfin : ∀ (listed:Array Bool) (a:Act) (w:World),listed.size = ops.size → Region.ready .any ops listed = [] → Inv n ds es env0 heap0 D0 m0 ok w0 (fun k=>listed.getD k false) a w → Q .normal a w:=by
  intro listed a w hs hr hI
  exact hQ a w (hI.congr fun i hi=>hall listed hs hr i (by rw [← h.len]; exact hi))
 intro fuel
 induction fuel with
 | zero =>
  intro listed a w hs hc hdc hI
  have hr:Region.ready .any ops listed = []:=by
   cases hr:Region.ready .any ops listed with
   | nil=>rfl
   | cons i r =>
    have hi:i ∈ Region.ready .any ops listed:=by rw [hr]; exact List.mem_cons_self
    obtain ⟨h1,h2,_⟩:=ready_iff.1 hi
    have:=List.countP_pos_iff (p:=fun k=>!listed.getD k true) |>.2 ⟨i,List.mem_range.2 h1,by simp only [h2]; rfl⟩
    omega
  exact ⟨hr,hfin listed a w hs hr hI⟩
 | succ fuel ih =>
  intro listed a w hs hc hdc hI
  refine ⟨fun hr=>hfin listed a w hs hr hI,fun i hi=>?_⟩
  obtain ⟨h1,h2,h3⟩:=ready_iff.1 hi
  have hif:listed.getD i false = false:=by rw [hboth listed i hs h1]; exact h2
  have hlt:i < es.length:=by rw [h.len]; exact h1
  have hset : ∀ k d,(listed.setIfInBounds i true).getD k d = if k = i then true else listed.getD k d:=by
   intro k d
   rw [Array.getD_eq_getD_getElem?,Array.getD_eq_getD_getElem?,Array.getElem?_setIfInBounds]
   by_cases hk:k = i
   ·subst hk
    simp [hs,h1]
   ·have hk' : ¬ i = k:=fun e=>hk e.symm
    simp [hk,hk']
  refine h.step (List.getElem?_eq_getElem hlt) hif hI (fun j f hj hf=>?_) (fun j f hj hf=>?_) (fun x hx=>by rw [h.cells hrc (List.getElem?_eq_getElem hlt) hx,h.cells hrc (List.getElem?_eq_getElem hlt) hx]) (fun a' w' hI'=>ih _ a' w' (by simpa using hs) ?_ (fun k hk d hd=>?_) (hI'.congr fun k _=>by rw [hset]))
  ·rcases hord j i f _ hj hf (List.getElem?_eq_getElem hlt) with hb | hin
   ·exact .inl (hb (fun k=>listed.getD k false) hdc h3)
   ·exact .inr hin
  ·cases hS:listed.getD j false with
   | false=>exact .inl rfl
   | true =>
    rcases hord i j _ f hj (List.getElem?_eq_getElem hlt) hf with hb | hin
    ·have:=hb (fun k=>listed.getD k false) hdc (hdc j hS)
     rw [hif] at this; cases this
    ·exact .inr hin
  ·have hlt':(List.range ops.size).countP (fun k=>!(listed.setIfInBounds i true).getD k true) < (List.range ops.size).countP (fun k=>!listed.getD k true):=by
    have key : ∀ l:List Nat,i ∈ l → l.countP (fun k=>!(listed.setIfInBounds i true).getD k true) < l.countP (fun k=>!listed.getD k true):=by
     intro l
     induction l with
     | nil=>intro h; cases h
     | cons x l ihl =>
      intro hx
      have hle : ∀ l:List Nat,l.countP (fun k=>!(listed.setIfInBounds i true).getD k true) ≤ l.countP (fun k=>!listed.getD k true):=fun l=>List.countP_mono_left fun k _ hk=>by
       rw [hset] at hk
       by_cases hki:k = i
       ·simp [hki] at hk
       ·simpa [hki] using hk
      by_cases hxi:x = i
      ·subst hxi
       rw [List.countP_cons_of_neg (by rw [hset]; simp),List.countP_cons_of_pos (by rw [h2]; rfl)]
       exact Nat.lt_succ_of_le (hle l)
      ·have hil:i ∈ l:=by rcases List.mem_cons.1 hx with h | h; exact absurd h.symm hxi; exact h
       have:=ihl hil
       simp only [List.countP_cons,hset,hxi,if_false]
       rw [show (List.countP (fun k=>!if k = i then true else listed.getD k true) l) = l.countP (fun k=>!(listed.setIfInBounds i true).getD k true) from List.countP_congr fun k _=>by rw [hset]]
       omega
    exact key _ (List.mem_range.2 h1)
   omega
  ·rw [hset] at hk ⊢
   by_cases hd':d = i
   ·simp [hd']
   ·simp only [hd',if_false]
    by_cases hk':k = i
    ·subst hk'; exact h3 d hd
    ·simp only [hk',if_false] at hk
     exact hdc k hk d hd
end
end Go.Proofs.YtakallenldpkiaaGreatDoor.Abs
