/- A row of which less is said; shorter words. Generic over any program. -/
import Derived.Test.YtakallenldpkiaaGreatDoorA29
set_option linter.unusedVariables false
set_option linter.unusedSimpArgs false
set_option linter.unusedSectionVars false
namespace Go.Proofs.YtakallenldpkiaaGreatDoor.Abs
open Go
variable [DqC]
theorem RepObj.trunc {w:World} {ok:Nat → Prop} {D:AId → Prop} {m:AId → Option Blk} {sz ty q:Nat} {es:List (List PVal)} {B:Blk} (h:RepObj w ok D m (.row sz ty es) B):RepObj w ok D m (.row sz ty (es.take q)) B:=by
 cases B with
 | nil=>exact ⟨by rw [h.1]; simp,h.2⟩
 | «at» b tot =>
  obtain ⟨vs,h1,h2,h3,h4,h5,h6,h7⟩:=h
  refine ⟨vs,h1,h2,by simp only [List.length_take]; omega,h4,h5,fun e he=>h6 e (List.mem_of_mem_take he),fun i j e p he hp=>h7 i j e p (get_of_take he) hp⟩
theorem Conv.trunc {k0:Nat} {env:List (Nat × PVal)} {heap zx:List (AId × AObj)} {next id sz ty:Nat} {es es':List (List PVal)} (q:Nat) (ho:heap.lookup id = some (.row sz ty es)) (he:es.take q = es') (hh:setH id (.row sz ty es') heap = zx) :
  Conv k0 ⟨env,heap,next⟩ ⟨env,zx,next⟩:=by
 subst he
 intro n ds m ok a w hkn hS
 refine ⟨m,⟨?_,hS.tmp,hS.df,hS.sz⟩,Step.refl m w,fun i hi=>.inl rfl,hkn⟩
 have:=hS.hp.weakObj (id:=id) ho (o':=.row sz ty (es.take q)) (fun B' _ hob=>hob.trunc)
 show SimH _ _ _ (fun i=>zx.lookup i) w
 rw [← hh,lookup_setH_fun]
 exact this
theorem WK.trunc {P:Program} {n k0:Nat} {Q:Exit → St → Prop} {r:List AC} {env:List (Nat × PVal)} {heap zx:List (AId × AObj)} {next id sz ty:Nat} {es es':List (List PVal)} (q:Nat) (ho:heap.lookup id = some (.row sz ty es)) (he:es.take q = es') (hr:r ≠ []) (hh:setH id (.row sz ty es') heap = zx)
  (k:WK P n k0 r Q ⟨env,zx,next⟩):WK P n k0 r Q ⟨env,heap,next⟩:=WK.conv (Conv.trunc q ho he hh) k hr
theorem WK.truncT {α:Type} {c:α → List PVal} {P:Program} {n k0:Nat} {Q:Exit → St → Prop} {r:List AC} {env:List (Nat × PVal)} {heap zx:List (AId × AObj)} {next id sz ty:Nat} {L:List α} (q:Nat) (ho:heap.lookup id = some (.row sz ty (L.map c))) (hr:r ≠ []) (hh:setH id (.row sz ty ((L.take q).map c)) heap = zx)
  (k:WK P n k0 r Q ⟨env,zx,next⟩):WK P n k0 r Q ⟨env,heap,next⟩:=WK.conv (Conv.trunc q ho (by rw [List.map_take]) hh) k hr
theorem zk {α:Type} {L:List α} {i:Int} {x:α} (h:getI L i = some x):0 ≤ i ∧ i = (i.toNat:Int) ∧ i.toNat < L.length ∧ L[i.toNat]? = some x:=by
 unfold getI at h
 split at h
 ·rename_i h0
  exact ⟨h0,(Int.toNat_of_nonneg h0).symm,(List.getElem?_eq_some_iff.1 h).1,h⟩
 ·cases h
theorem set_at {α:Type} {L:List α} {j:Nat} {x y:α} (h:L[j]? = some x):(L.set j y)[j]? = some y:=by
 have:=(List.getElem?_eq_some_iff.1 h).1
 simp [this]
theorem wz {α:Type} {b:Bool} {x y r:α} (hb:b = false) (h:(bif b then x else y) = r):y = r:=by subst hb; exact h
theorem wy {α:Type} {b:Bool} {x y r:α} (hb:b = true) (h:(bif b then x else y) = r):x = r:=by subst hb; exact h
theorem set_lt {α:Type} {L:List α} {j:Nat} {y:α} (h:j < L.length):j < (L.set j y).length:=by
 simpa using h
section
variable {α:Type} {c:α → List PVal} {L:List α} {h:Heap} {nx id sz ty j off o' len s1 k m:Nat} {ik:IntKind} {i:Int} {cs:List PVal}
theorem core_idxAAe (ho:h id = some (.row sz ty (L.map c))) (hs:i = (k:Int)) (hk:Nat.blt k len = true) (hj:j < L.length) (hv:off + k * s1 = o') :
  core (.idxAA len s1) [.eptr id sz j off,.int ik i] h nx = some { v:=.eptr id sz j o',rh:=[id] }:=by
 subst hs hv
 have hk':k < len:=by rw [← Nat.blt_eq]; exact hk
 simp only [core,ho]
 rw [if_pos ⟨trivial,by rw [List.length_map]; exact hj,by omega,by omega⟩]
 rfl
theorem core_idxAAp (ho:h id = some (.box cs)) (hs:i = (k:Int)) (hk:Nat.blt k len = true) (hv:off + k * s1 = o') :
  core (.idxAA len s1) [.ptr id off,.int ik i] h nx = some { v:=.ptr id o',rh:=[id] }:=by
 subst hs hv
 have hk':k < len:=by rw [← Nat.blt_eq]; exact hk
 simp only [core,ho]
 rw [if_pos ⟨by omega,by omega⟩]
 rfl
theorem core_sliceRhi (ho:h id = some (.row sz ty (L.map c))) (h0:0 ≤ i) (h1:i ≤ (L.length:Int)) :
  core (.slice sz false true) [.own id sz 0 L.length,.int ik i] h nx = some { v:=.own id sz 0 (L.take i.toNat).length,rh:=[id] }:=by
 have e:(L.take i.toNat).length = i.toNat:=by rw [List.length_take]; omega
 rw [e]
 simp only [core,ho,sbnd]
 rw [if_pos ⟨h0,h1⟩]
 simp
theorem wrap_u8_range (x:Int):0 ≤ IntKind.u8.wrap x ∧ IntKind.u8.wrap x < 256:=by
 have h3:(2:Int) ^ IntKind.u8.bits = 256:=by decide
 have h5:IntKind.u8.signed = false:=rfl
 simp only [IntKind.wrap,h3,h5,Bool.false_and,Bool.false_eq_true,if_false]
 omega
theorem core_idxS256 {s:ByteArray} {x:Int} (hs:s.size = 256):core .idxS [.str s,.int ik (IntKind.u8.wrap x)] h nx = some { v:=.int .u8 (strAt s (IntKind.u8.wrap x)) }:=by
 have hr:=wrap_u8_range x
 have hlt:(IntKind.u8.wrap x).toNat < s.data.toList.length:=by
  have:s.data.toList.length = 256:=by rw [← hs]; rfl
  omega
 simp only [core]
 rw [if_pos ⟨hr.1,by omega⟩,List.getElem?_eq_getElem hlt]
 simp only [Option.map_some,strAt,List.getElem?_eq_getElem hlt,Option.getD_some]
theorem core_addS {a b:ByteArray} {ek:EK} (hs:a.size + b.size ≤ 9223372036854775807):core (.bin .add ek) [.str a,.str b] h nx = some { v:=.str (a ++ b) }:=by
 cases ek <;> simp [core,coreBin,binV,hs]
end
end Go.Proofs.YtakallenldpkiaaGreatDoor.Abs
