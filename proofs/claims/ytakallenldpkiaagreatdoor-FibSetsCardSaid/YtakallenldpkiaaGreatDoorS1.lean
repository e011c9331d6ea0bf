/- slices.Clone, slices.Insert, slices.Delete at elements of any type: what their code does. Generic over any program. -/
import Derived.Test.YtakallenldpkiaaGreatDoorA26
set_option linter.unusedVariables false
set_option linter.unusedSimpArgs false
set_option maxRecDepth 20000
set_option linter.unusedSectionVars false
namespace Go.Proofs.YtakallenldpkiaaGreatDoor.Abs
open Go
variable [DqC]
def cloneAC (sz:Nat) (ty:TypeId) (by_:Nat):AC :=
  .seq (.reg []
    [⟨some 2,none,.mov,[.c .nils]⟩])
  (.seq (.seq (.reg []
    [⟨some 3,none,.mov,[.t 0]⟩,
     ⟨some 4,none,.bin .eql .sl,[.t 3,.c .nils]⟩])
  (.cond (.t 4)
  (.seq (.reg []
    [⟨some 2,none,.mov,[.c .nils]⟩])
  .ret)
  .skip))
  (.seq (.reg []
    [⟨some 5,none,.bslice sz ty,[]⟩,
     ⟨some 6,none,.mov,[.t 0]⟩,
     ⟨some 7,none,.append sz ty by_,[.t 5,.t 6]⟩,
     ⟨some 2,none,.mov,[.t 7]⟩])
  .ret))
theorem ret_row {P:Program} {n k0 t id sz ty q next:Nat} {r:List AC} {env:List (Nat × PVal)} {heap:List (AId × AObj)} {es:List (List PVal)} (ht:env.lookup t = some (.own id sz 0 q)) (ho:heap.lookup id = some (.row sz ty es)) (hk:k0 ≤ next) :
    WK P n k0 (.ret :: r) (RetQ k0 [.t t] (.own k0 sz 0 q) [(k0,.row sz ty es)] (k0 + 1)) ⟨env,heap,next⟩:=by
  refine WK.conv (Conv.move ho ht) ?_ (by simp)
  refine WK.ret ?_
  have hposA : ∀ (l:List Nat) (j k:Nat),(∀ x ∈ l,x ≠ j) → posAt (l ++ [j]) j k = some (k + l.length):=by
    intro l
    induction l with
    | nil=>intro j k _; simp [posAt]
    | cons a l ih =>
      intro j k h
      have:a ≠ j:=h a (by simp)
      simp only [List.cons_append,posAt]
      rw [ih j (k + 1) (fun x hx=>h x (List.mem_cons_of_mem _ hx))]
      simp [this,List.length_cons]
      omega
  have hpos:posAt (List.range k0 ++ [next]) next 0 = some k0:=by
    rw [hposA _ _ _ (fun x hx=>by have:=List.mem_range.1 hx; omega)]
    simp
  have hsub : ∀ (l:List Nat) (k:Nat) (sl:List Nat),(∀ x ∈ l,x ≠ next) → subR [(next,AObj.row sz ty es)] sl [] (l ++ [next]) k = some [(k + l.length,.row sz ty es)]:=by
    intro l
    induction l with
    | nil=>intro k sl _; simp [subR,List.lookup,viewO]
    | cons a l ih =>
      intro k sl h
      have:(a == next) = false:=by simpa using h a (by simp)
      simp only [List.cons_append,subR,List.lookup,this]
      rw [ih (k + 1) sl (fun x hx=>h x (List.mem_cons_of_mem _ hx))]
      simp
      omega
  refine RetQ.doneR (.inr rfl) (qs:=[.own next sz 0 q]) (qs':=[.own k0 sz 0 q]) (sl:=List.range k0 ++ [next]) (bi:=[]) ?_ (fun i hi=>?_) (by simp) ?_ ?_ ?_ .refl (by simp)
  · simp [evalRs,evalRV,List.lookup]
  · rw [List.getElem?_append_left (by simpa using hi),List.getElem?_range hi]
  · simp only [slOk,Bool.and_eq_true,decide_eq_true_eq,List.all_eq_true]
    refine ⟨?_,fun id hid=>?_⟩
    · rw [List.nodup_append]
      refine ⟨List.nodup_range,by simp,fun a ha b hb=>?_⟩
      have:=List.mem_range.1 ha
      simp at hb
      omega
    · simp only [List.mem_append,List.mem_range,List.mem_singleton] at hid
      simp
      omega
  · have:=hsub (List.range k0) 0 (List.range k0 ++ [next]) (fun x hx=>by have:=List.mem_range.1 hx; omega)
    simpa [pickH] using this
  · simp [viewP.go,viewP,hpos]
theorem core_bslice0 {h:Heap} {nx sz ty:Nat} (hsz:0 < sz):core (.bslice sz ty) [] h nx = some { v:=.own nx sz 0 0,wh:=[(nx,some (.row sz ty []))],nw:=[nx] }:=by
  simp [core,elemsOf,hsz]
theorem core_eqlnil {h:Heap} {nx:Nat} {sz:Nat} (es:List (List PVal)):core (.bin .eql .sl) [.ro sz es,.nils] h nx = some { v:=if 0 < es.length then .bool false else .anyb }:=by
  rfl
section
variable {P:Program} {f:FuncId} {sz ty by_:Nat} {zs:List PVal} {fo fr:FuncId}
theorem clone_gen (qv:P.follows .mixedOrders = true) (hi:fnInfo P f = some (8,[.t 2],cloneAC sz ty by_)) (es:List (List PVal)) (hsz:0 < sz) (hb:es.length * by_ ≤ 140737488355328) (hmx:es.length ≤ 9223372036854775807) (r:PVal) (h1:List (AId × AObj)) (k1:Nat)
    (E1:es = [] → ∀ rest,WK P 8 0 (.ret :: rest) (RetQ 0 [.t 2] r h1 k1) ⟨[(2,.nils),(4,if 0 < es.length then .bool false else .anyb),(3,.ro sz es),(2,.nils),(0,.ro sz es)],[],0⟩)
    (E2:WK P 8 0 [.ret] (RetQ 0 [.t 2] r h1 k1) ⟨[(2,.own 1 sz 0 es.length),(7,.own 1 sz 0 es.length),(6,.ro sz es),(5,.own 0 sz 0 0),(4,if 0 < es.length then .bool false else .anyb),(3,.ro sz es),(2,.nils),(0,.ro sz es)],[(1,.row sz ty es)],2⟩) :
    FnOk P f [.ro sz es] [] 0 r h1 k1:=by
  have key : ∀ (Q:Exit → St → Prop),WK P 8 0 [.ret] Q ⟨[(2,.own 1 sz 0 es.length),(7,.own 1 sz 0 es.length),(6,.ro sz es),(5,.own 0 sz 0 0),(4,if 0 < es.length then .bool false else .anyb),(3,.ro sz es),(2,.nils),(0,.ro sz es)],[(1,.row sz ty es)],2⟩ →
      WK P 8 0 [.seq (.reg [] [⟨some 5,none,.bslice sz ty,[]⟩,⟨some 6,none,.mov,[.t 0]⟩,⟨some 7,none,.append sz ty by_,[.t 5,.t 6]⟩,⟨some 2,none,.mov,[.t 7]⟩]) .ret] Q
        ⟨[(4,if 0 < es.length then .bool false else .anyb),(3,.ro sz es),(2,.nils),(0,.ro sz es)],[],0⟩:=by
    intro Q hQ
    refine WK.seq (WK.regx qv ?_)
    refine GX.step rfl rfl rfl (core_bslice0 hsz) rfl rfl rfl ?_
    refine GX.pure rfl rfl rfl rfl rfl ?_
    refine ⟨GO.app (es:=[]) (rh2:=[]) (zx:=[(1,.row sz ty es)]) rfl rfl rfl rfl rfl rfl (by simpa using hb) (by simpa [maxLen] using hmx) rfl rfl rfl (GX.run ?_)⟩
    refine GX.pure rfl rfl rfl rfl rfl ?_
    refine GX.done ?_
    simpa using hQ
  refine FnOk.wk hi rfl rfl ?_
  unfold cloneAC
  simp only [paramE,Nat.reduceAdd]
  refine WK.seq (WK.regx qv ?_)
  refine GX.pure rfl rfl rfl rfl rfl ?_
  refine GX.done ?_
  refine WK.seq (WK.seq (WK.regx qv ?_))
  refine GX.pure rfl rfl rfl rfl rfl (GX.pure (v':=if 0 < es.length then .bool false else .anyb) rfl rfl rfl (core_eqlnil es) rfl ?_)
  refine GX.done ?_
  rcases Nat.eq_zero_or_pos es.length with h0 | h0
  · obtain rfl:es = []:=List.length_eq_zero_iff.1 h0
    refine WK.condU rfl ?_ ?_
    · refine WK.seq (WK.regx qv ?_)
      refine GX.pure rfl rfl rfl rfl rfl ?_
      refine GX.done ?_
      exact E1 rfl _
    · exact WK.skip (key _ E2)
  · refine WK.condF (by simp only [if_pos h0]; rfl) ?_
    exact WK.skip (key _ E2)
theorem clone_ok (qv:P.follows .mixedOrders = true) (hi:fnInfo P f = some (8,[.t 2],cloneAC sz ty by_)) (es:List (List PVal)) (hsz:0 < sz) (hb:es.length * by_ ≤ 140737488355328) (hmx:es.length ≤ 9223372036854775807) :
    FnOk P f [.ro sz es] [] 0 (.own 0 sz 0 es.length) [(0,.row sz ty es)] 1:=by
  refine clone_gen qv hi es hsz hb hmx _ _ _ (fun h rest=>?_) (ret_row (id:=1) rfl rfl (by decide))
  subst h
  refine WK.adopt (t:=2) (sz:=sz) (ty:=ty) rfl hsz (by simp) rfl ?_
  exact ret_row (id:=0) rfl rfl (by decide)
theorem clone_okT {α:Type} {c:α → List PVal} (qv:P.follows .mixedOrders = true) (hi:fnInfo P f = some (8,[.t 2],cloneAC sz ty by_)) (L:List α) (hsz:0 < sz) (hb:L.length * by_ ≤ 140737488355328) (hmx:L.length ≤ 9223372036854775807) :
    FnOk P f [.ro sz (L.map c)] [] 0 (.own 0 sz 0 L.length) [(0,.row sz ty (L.map c))] 1:=by
  have:=clone_ok qv hi (L.map c) hsz (by simpa using hb) (by simpa using hmx)
  rwa [List.length_map] at this
end
end Go.Proofs.YtakallenldpkiaaGreatDoor.Abs
