/- A row of which less is said; shorter words. Generic over any program. -/
import Derived.Test.YtmfggjebbhdejaaGreatA29
set_option linter.unusedVariables false
set_option linter.unusedSimpArgs false
namespace Go.Proofs.YtmfggjebbhdejaaGreat.Abs
open Go
theorem RepObj.trunc {w:World} {ok:Nat → Prop} {D:AId → Prop} {m:AId → Option Blk} {sz ty q:Nat} {es:List (List PVal)} {B:Blk} (h:RepObj w ok D m (.row sz ty es) B):RepObj w ok D m (.row sz ty (es.take q)) B:=by
 cases B with
 | nil=>exact ⟨by rw [h.1]; simp,h.2⟩
 | «at» b tot =>
  obtain ⟨vs,h1,h2,h3,h4,h5,h6,h7⟩:=h
  refine ⟨vs,h1,h2,by simp only [List.length_take]; omega,h4,h5,fun e he=>h6 e (List.mem_of_mem_take he),fun i j e p he hp=>h7 i j e p (get_of_take he) hp⟩
theorem Conv.trunc {k0:Nat} {env:List (Nat × PVal)} {heap zj:List (AId × AObj)} {next id sz ty:Nat} {es es':List (List PVal)} (q:Nat) (ho:heap.lookup id = some (.row sz ty es)) (he:es.take q = es') (hh:setH id (.row sz ty es') heap = zj) :
  Conv k0 ⟨env,heap,next⟩ ⟨env,zj,next⟩:=by
 subst he
 intro n ds m ok a w hkn hS
 refine ⟨m,⟨?_,hS.tmp,hS.df,hS.sz⟩,Step.refl m w,fun i hi=>.inl rfl,hkn⟩
 have:=hS.hp.weakObj (id:=id) ho (o':=.row sz ty (es.take q)) (fun B' _ hob=>hob.trunc)
 show SimH _ _ _ (fun i=>zj.lookup i) w
 rw [← hh,lookup_setH_fun]
 exact this
theorem WK.trunc {P:Program} {n k0:Nat} {Q:Exit → St → Prop} {r:List AC} {env:List (Nat × PVal)} {heap zj:List (AId × AObj)} {next id sz ty:Nat} {es es':List (List PVal)} (q:Nat) (ho:heap.lookup id = some (.row sz ty es)) (he:es.take q = es') (hr:r ≠ []) (hh:setH id (.row sz ty es') heap = zj)
  (k:WK P n k0 r Q ⟨env,zj,next⟩):WK P n k0 r Q ⟨env,heap,next⟩:=WK.conv (Conv.trunc q ho he hh) k hr
theorem WK.truncT {α:Type} {c:α → List PVal} {P:Program} {n k0:Nat} {Q:Exit → St → Prop} {r:List AC} {env:List (Nat × PVal)} {heap zj:List (AId × AObj)} {next id sz ty:Nat} {L:List α} (q:Nat) (ho:heap.lookup id = some (.row sz ty (L.map c))) (hr:r ≠ []) (hh:setH id (.row sz ty ((L.take q).map c)) heap = zj)
  (k:WK P n k0 r Q ⟨env,zj,next⟩):WK P n k0 r Q ⟨env,heap,next⟩:=WK.conv (Conv.trunc q ho (by rw [List.map_take]) hh) k hr
theorem kx {α:Type} {L:List α} {i:Int} {x:α} (h:getI L i = some x):0 ≤ i ∧ i = (i.toNat:Int) ∧ i.toNat < L.length ∧ L[i.toNat]? = some x:=by
 unfold getI at h
 split at h
 ·rename_i h0
  exact ⟨h0,(Int.toNat_of_nonneg h0).symm,(List.getElem?_eq_some_iff.1 h).1,h⟩
 ·cases h
theorem kz {α:Type} {b:Bool} {x y r:α} (hb:b = false) (h:(bif b then x else y) = r):y = r:=by subst hb; exact h
theorem ky {α:Type} {b:Bool} {x y r:α} (hb:b = true) (h:(bif b then x else y) = r):x = r:=by subst hb; exact h
section
variable {α:Type} {c:α → List PVal} {L:List α} {h:Heap} {nx id sz ty j off o' len s1 k m:Nat} {ik:IntKind} {i:Int} {cs:List PVal}
end
end Go.Proofs.YtmfggjebbhdejaaGreat.Abs
