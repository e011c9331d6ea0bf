/- The abstract machine as a program: what it answers is proved by running it. Generic over any program. -/
import Derived.Test.YtakallenldpkiaaGreatDoorA27
set_option linter.unusedVariables false
set_option linter.unusedSimpArgs false
set_option linter.unusedSectionVars false
namespace Go.Proofs.YtakallenldpkiaaGreatDoor.Abs
open Go
variable [DqC]
section
variable {P:Program} {n k0:Nat} {Q:Exit → St → Prop} {st:St}
theorem W.post {ac:AC} (h:W P n k0 ac (fun e s=>∃ s',Conv k0 s s' ∧ Q e s') st):W P n k0 ac Q st:=by
 intro c hcc rr ds m ok a w hk hS
 refine wpIn_mono (h c hcc rr ds m ok a w hk hS) ?_
 rintro e a2 w2 ⟨st2,m2,hp2⟩
 obtain ⟨s',hc,hq⟩:=hp2.q
 obtain ⟨m',h1,h2,h3,h4⟩:=hc n ds m2 ok a2 w2 hp2.le hp2.sim
 exact ⟨s',m',hq,h1,hp2.step.trans h2,hp2.mon.trans h3 fun _ h=>h,h4⟩
end
def TabOk (P:Program) (F:List (Nat × (Nat × List RV × AC))):Prop:=∀ f x,lk F f = some x → fnInfo P f = some x
theorem TabOk.nil {P:Program}:TabOk P []:=fun f x h=>by cases h
theorem TabOk.cons {P:Program} {K:Nat} {x:Nat × List RV × AC} {F:List (Nat × (Nat × List RV × AC))} (h:fnInfo P K = some x) (k:TabOk P F):TabOk P ((K,x) :: F):=fun f y hy=>by
 unfold lk at hy
 cases hb:Nat.beq f K with
 | true =>
  rw [hb,cond_true] at hy
  injection hy with hy
  rw [Nat.eq_of_beq_eq_true hb,h,hy]
 | false =>
  rw [hb,cond_false] at hy
  exact k f y hy
end Go.Proofs.YtakallenldpkiaaGreatDoor.Abs
