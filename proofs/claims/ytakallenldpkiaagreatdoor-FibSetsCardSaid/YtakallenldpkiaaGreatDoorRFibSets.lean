/- FibSets: No more sets are held than there are prefixes. No condition. -/
import Derived.Test.YtakallenldpkiaaGreatDoorRows
import Derived.Test.YtakallenldpkiaaGreatDoorTy
import Derived.Test.YtakallenldpkiaaGreatDoorLa
import Derived.Test.YtakallenldpkiaaGreatDoorLf
import Derived.Test.YtakallenldpkiaaGreatDoorW2
import Derived.Test.YtakallenldpkiaaGreatDoorTie
import Derived.Test.YtakallenldpkiaaGreatDoorCards
import Derived.SevenTiedAt
import Derived.JoinedCond
import Derived.Deep.DeepHandedRow
import Derived.Deep.DeepWitnessRowRef
import Derived.WalkKit
import Derived.ShutString
import Derived.Below
namespace Go.Proofs.YtakallenldpkiaaGreatDoor
open Go Go.ChangeShapes Go.WideShapes Go.ChangeAt Go.RowKit
set_option linter.unusedVariables false
namespace FibSetsRow
theorem own:ownKnob Tryz.prog.godebug = none:=by kernel_rfl
theorem laidOut:laidOutB Tryz.prog = true:=by kernel_rfl
set_option maxRecDepth 100000 in
theorem wit (os:Os) {H:Type} (enc:TypeId × Value → H) :
  (OpenSpec.ofChange Rows.fibSetsSpec).preRow enc Tryz.prog Tryz.f4 Rows.fibSetsRow.domain false Rows.fibSetsRow.laid ((La.laidWorld os).forCall (fun _ _=>0) ⟨#[],#[.slice none 0 0],[]⟩).memory #[.slice none 0 0]:=by
 have hw:(DataW.whole enc Tryz.prog ((La.laidWorld os).forCall (fun _ _=>0) ⟨#[],#[.slice none 0 0],[]⟩).memory Tryz.f4.params.toList (OpenSpec.ofChange Rows.fibSetsSpec).vars false (#[.slice none 0 0]:Array Value).toList 8).map (fun x=>(x.1,x.2.1)) =
   some ([.nil],[]):=by kernel_rfl
 obtain ⟨⟨x1,x2,x3⟩,hx,hx1⟩:=Option.map_eq_some_iff.1 hw
 simp only [Prod.mk.injEq] at hx1
 obtain ⟨rfl,rfl⟩:=hx1
 exact OpenSpec.preRow_of_cond 8 hx (by kernel_rfl) (fun k hk=>by cases hk) (by kernel_rfl) (La.laid_met os _)
set_option maxRecDepth 100000 in
theorem lifted (os:Os) (started:os.Started) (H:Type) (enc:TypeId × Value → H) (F:Stop.Interp) :
  ReturnsInHanded {} Tryz.checked os 4 .any ((OpenSpec.ofChange Rows.fibSetsSpec).preRow enc Tryz.prog Tryz.f4 Rows.fibSetsRow.domain false Rows.fibSetsRow.laid) (((OpenSpec.ofChange Rows.fibSetsSpec).at F).post enc Tryz.prog Tryz.f4 false true false false):=by
 refine returnsInHanded_of_row (C:=Tryz.checked) (s:=OpenSpec.ofChange Rows.fibSetsSpec) own started (by kernel_rfl) Tryz.func4
  (witness_row_atRef (enc:=enc) (C:=Tryz.checked) false (La.laidWorld os) #[.slice none 0 0] rfl (by kernel_rfl) (by kernel_rfl) (by kernel_rfl) (wit os enc)) ?_
 intro W base args ds gs before hval0 hW hcnd _ hsz0 hL hsh _
 have hG:Abs.GsIn W:=La.gsIn hL hsh
 have hval : ∀ (j:Nat) t v,Tryz.f4.params[j]? = some t → args[j]? = some v → Value.okWide Tryz.prog W .any base t v:=hval0
 have hW':=hW
 obtain ⟨p,q,hA0,hV,rfl,hfz,hnd⟩:=hW
 have hA:DataW.TrodAll enc Tryz.prog W 0 (fun _=>true) true Tryz.f4.params.toList args.toList ds p:=hA0
 rw [Tryz.params4] at hA hval
 obtain ⟨v0,vs0,d0,ds0,p0,q0,hargs,rfl,rfl,h0,r0⟩:=trodAll_cons hA
 obtain ⟨rfl,rfl,rfl⟩:=trodAll_nil r0
 obtain rfl:args = #[v0]:=by cases args; simp_all
 obtain ⟨rfl,rfl⟩:=trodVars_none hV
 obtain ⟨a0,len0,cap0,rfl⟩:=okWide_slice Tryz.underlying48 (hval 0 48 v0 rfl rfl)
 have k0:=h0
 have lt0 : ∀ x ∈ p0,x.block < W.heap.size:=by obtain ⟨m,hm⟩:=k0; exact DataW.trod_lt m _ _ _ hm
 obtain ⟨e0,T0,R0⟩:=Abs.open_arg1 (n:=7) (by kernel_rfl) h0 rfl
 obtain ⟨x0,hx0,ok0⟩:=Abs.of48 (n:=0) T0
 obtain rfl:=(List.cons.inj hx0).1
 clear hA0 hval0 hsz0
 refine (Abs.FnOk.run (Abs.f4_ok x0 true (Abs.fibSets_true x0 ok0)) hG (Abs.Reps.cons R0 (Abs.Reps.nil ..))).mono fun e W' ⟨he,bel⟩=>?_
 subst he
 exact ⟨_,rfl,_,_,_,[],_,[],hW',trodAll_mk1 (shut_bool Tryz.underlying4 _),(trodAll_cons_mk (Below.trod laidOut (by kernel_rfl) (of_decide_eq_true (by kernel_rfl)) k0 bel lt0) trodAll_mk0),rfl,bel.frame _,fun h=>by cases h⟩
end FibSetsRow
theorem fibSets_row_holds:Rows.FibSetsSaid :=
 OpenClaim.holds_of_cond 4 Tryz.f4 rfl rfl rfl rfl rfl rfl rfl ⟨rfl,rfl,rfl,rfl,rfl⟩ rfl rfl rfl rfl rfl (by kernel_rfl) Tryz.func4 (by kernel_rfl)
  (of_decide_eq_true (by kernel_rfl)) (by unfold Func.isWrapper; first | (rw [if_pos (by decide +kernel)]; kernel_rfl) | (rw [if_neg (by decide +kernel)]; exact ⟨rfl,rfl⟩))
  (fun os started H enc _ F=>by rw [OpenClaim.pre_eq_preRow]; exact FibSetsRow.lifted os started H enc F)
theorem fibSets_holds:Rows.FibSetsCardSaid :=
 Claim7.holds_tied_plain_at .later [] [.data,.data,.data] true (true, "94ce30136716d9884ff55e7fc86bd0f99ba8df5762e9d7c2ab11996fc824eeb8") false
  fibSets_row_holds (fun _ h=>by cases h) (by kernel_rfl) (fun _ h=>by cases h) fibSets_row_tie rfl ⟨rfl,rfl⟩ (by kernel_rfl) rfl
  (fun f fn hf hfn=>by
   obtain rfl:f = 4:=(Option.some.inj ((show Tryz.prog.funcNamed "crossroads/crossroadslaw27.FibSets" = some 4 by kernel_rfl).symm.trans hf)).symm
   obtain rfl:fn = Tryz.f4:=(Option.some.inj (Tryz.func4.symm.trans hfn)).symm
   exact ⟨by kernel_rfl,fun j t ht=>by
    rw [Tryz.params4] at ht
    have hall : ∀ u ∈ (Tryz.f4.params).toList,Tryz.prog.wantsStandIn u = false:=by rw [Tryz.params4]; intro u hu; simp only [List.mem_cons,List.not_mem_nil,or_false] at hu; rcases hu with rfl <;> kernel_rfl
    exact hall t (by rw [Tryz.params4]; exact Array.mem_toList_iff.2 (Array.mem_of_getElem? ht))⟩)
  (by kernel_rfl)
end Go.Proofs.YtakallenldpkiaaGreatDoor
