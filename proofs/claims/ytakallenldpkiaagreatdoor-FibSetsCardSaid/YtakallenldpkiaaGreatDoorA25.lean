/- A call with whatever objects it takes; what slices.overlaps says of two own rows. Generic over any program. -/
import Derived.Lib.Overlaps
import Derived.Test.YtakallenldpkiaaGreatDoorA24
set_option linter.unusedVariables false
set_option linter.unusedSimpArgs false
set_option linter.unusedSectionVars false
namespace Go.Proofs.YtakallenldpkiaaGreatDoor.Abs
open Go
variable [DqC]
section
variable {P:Program} {n:Nat} {K:St → Prop} {l:List AO} {env:List (Nat × PVal)} {heap zx:List (AId × AObj)} {next zy d:Nat} {xs:List AX} {ps qs:List PVal} {dr:List (List Nat)} {racc:List Eff} {g:Option (Nat × Bool)}
theorem GO.callx {f:FuncId} {r r':PVal} {h0 h1:List (AId × AObj)} {k1:Nat} (sl bi:List Nat) (hd:Nat.blt d n = true) (hg:guarded env g = some true) (hx:evalXs env xs = some ps) (hv:viewP.go sl (pickH heap bi) ps = some qs)
  (h0':subH heap sl (pickH heap bi) sl 0 = some h0) (hs:slOk sl bi next = true) (hF:FnOk P f qs h0 sl.length r h1 k1) (hfl:bi = [] ∨ FlatR r h1) (hr:renP (tau sl next) r = r') (hh:happL (callWh sl next h1 k1) heap = zx) (hn:next + (k1 - sl.length) = zy)
  (k:GO P n K l ⟨(d,r') :: env,zx,zy⟩):GO P n K (⟨some d,g,.call f,xs⟩ :: l) ⟨env,heap,next⟩:=by
 subst hr hh hn
 have hd':dOk n (some d) = true:=by simpa [dOk,Nat.blt_eq] using hd
 have he:EffOk P n ⟨env,heap,next⟩ ⟨some d,g,.call f,xs⟩ (callEff ⟨env,heap,next⟩ ⟨some d,g,.call f,xs⟩ sl bi r h1 k1) :=
  call_ok rfl hd' hg hx hF hv h0' hs hfl
 have hgo:GO P n K (⟨some d,g,.call f,xs⟩ :: l) ⟨env,heap,next⟩ = RG P n [] K (⟨some d,g,.call f,xs⟩ :: l) [] ⟨env,heap,next⟩:=by
  rw [GO]
  have:opEff n ⟨env,heap,next⟩ ⟨some d,g,.call f,xs⟩ = none:=by
   unfold opEff
   simp only [hd',if_true,hg,hx]
   rfl
  rw [this]
 rw [hgo]
 refine RG.call he ?_
 simpa only [St.app,callEff,Option.map_some,envApp,List.length_range'] using k
theorem GX.callx {f:FuncId} {r r':PVal} {h0 h1:List (AId × AObj)} {k1:Nat} (sl bi:List Nat) (hd:Nat.blt d n = true) (hg:guarded env g = some true) (hx:evalXs env xs = some ps) (hv:viewP.go sl (pickH heap bi) ps = some qs)
  (h0':subH heap sl (pickH heap bi) sl 0 = some h0) (hs:slOk sl bi next = true) (hF:FnOk P f qs h0 sl.length r h1 k1) (hfl:bi = [] ∨ FlatR r h1) (hr:renP (tau sl next) r = r') (hh:happL (callWh sl next h1 k1) heap = zx) (hn:next + (k1 - sl.length) = zy)
  (k:GX P n K l ⟨(d,r') :: env,zx,zy⟩):GX P n K (⟨some d,g,.call f,xs⟩ :: l) ⟨env,heap,next⟩:=⟨GO.callx sl bi hd hg hx hv h0' hs hF hfl hr hh hn k.run⟩
end
end Go.Proofs.YtakallenldpkiaaGreatDoor.Abs
