/- ElectSteady: once all say the same two, these are elected again, whatever newcomer there is. No condition. -/
import Derived.Test.YtbgnflbbebnagaaRows
import Derived.Test.YtbgnflbbebnagaaY3
import Derived.Test.YtbgnflbbebnagaaR1
import Derived.WalkKit
import Derived.ShutString
import Derived.Below
namespace Go.Proofs.Ytbgnflbbebnagaa
open Go Go.ChangeShapes Go.WideShapes Go.ChangeAt Go.RowKit
set_option linter.unusedVariables false
namespace SteadyRow
theorem own : ownKnob Try.prog.godebug = none := by kernel_rfl
theorem laidOut : laidOutB Try.prog = true := by kernel_rfl
set_option maxRecDepth 100000 in
theorem lifted (os : Os) (started : os.Started) (H : Type) (enc : TypeId × Value → H) :
    ReturnsInHanded {} Try.checked os 6 .any (Rows.electSteadySpec.pre6 enc Try.prog Try.f6 Rows.electSteadyRow.domain false) (Rows.electSteadySpec.post enc Try.prog Try.f6 false true false false) := by
  refine returnsInHanded_of_change_sized (C := Try.checked) own started (by kernel_rfl) Try.func6
    (ChangeSpec.witness6 (enc := enc) (C := Try.checked) false ⟨#[], #[.slice none 0 0, .agg #[.int .u32 0, .int .i64 0, .int .u32 0, .int .u32 0], .agg #[.int .i64 0, .int .i64 0]], []⟩ 8 (by kernel_rfl) (by kernel_rfl) (by kernel_rfl) (by kernel_rfl)) ?_
  intro W base args ds gs before hval0 hW hcnd hsz0 _
  have hval : ∀ (j : Nat) t v, Try.f6.params[j]? = some t → args[j]? = some v → Value.okWide Try.prog W .any base t v := hval0
  have hW' := hW
  obtain ⟨p, q, hA0, hV, rfl, hfz, hnd⟩ := hW
  have hA : DataW.TrodAll enc Try.prog W 0 (fun _ => true) true Try.f6.params.toList args.toList ds p := hA0
  rw [Try.params6] at hA hval
  obtain ⟨v0, vs0, d0, ds0, p0, q0, hargs, rfl, rfl, h0, r0⟩ := trodAll_cons hA
  obtain ⟨v1, vs1, d1, ds1, p1, q1, rfl, rfl, rfl, h1, r1⟩ := trodAll_cons r0
  obtain ⟨v2, vs2, d2, ds2, p2, q2, rfl, rfl, rfl, h2, r2⟩ := trodAll_cons r1
  obtain ⟨rfl, rfl, rfl⟩ := trodAll_nil r2
  obtain rfl : args = #[v0, v1, v2] := by cases args; simp_all
  obtain ⟨rfl, rfl⟩ := trodVars_none hV
  obtain ⟨a0, len0, cap0, rfl⟩ := okWide_slice Try.underlying22 (hval 0 22 v0 rfl rfl)
  have k0 := h0
  have lt0 : ∀ x ∈ p0, x.block < W.heap.size := by obtain ⟨m, hm⟩ := k0; exact DataW.trod_lt m _ _ _ hm
  obtain ⟨l, _, hl, _⟩ := Abs.cands_rep Try.underlying22 Try.underlying38 (by kernel_rfl) rfl rfl rfl rfl (by kernel_rfl) (by kernel_rfl) (by kernel_rfl) (by kernel_rfl) Try.underlying23 Try.underlying3 Try.underlying23 Try.underlying23 h0
  have lt1 : ∀ x ∈ p1, x.block < W.heap.size := by obtain ⟨m, hm⟩ := h1; exact DataW.trod_lt m _ _ _ hm
  have lt2 : ∀ x ∈ p2, x.block < W.heap.size := by obtain ⟨m, hm⟩ := h2; exact DataW.trod_lt m _ _ _ hm
  obtain ⟨c, hc⟩ : ∃ c : Abs.Cand, v1 = .agg #[.int .u32 c.i, .int .i64 c.p, .int .u32 c.d, .int .u32 c.b] := by
    obtain ⟨m, hm⟩ := h1
    obtain ⟨c, hc⟩ := Abs.cand_cells Try.underlying38 (by kernel_rfl) rfl rfl rfl rfl (by kernel_rfl) (by kernel_rfl) (by kernel_rfl) (by kernel_rfl) Try.underlying23 Try.underlying3 Try.underlying23 Try.underlying23 hm
    refine ⟨c, ?_⟩
    cases v1 <;> simp [Value.cells] at hc
    first
      | rw [hc]
      | exact congrArg Value.agg (Array.toList_inj.1 hc)
  obtain ⟨a, b, hab⟩ : ∃ a b, v2 = .agg #[.int .i64 a, .int .i64 b] := by
    obtain ⟨m, hm⟩ := h2
    obtain ⟨xs, n, _, _, hl2, hxl, hf⟩ := DataW.trod_array Try.underlying42 hm
    have e2 : Try.prog.cellsOf 42 = 2 := by kernel_rfl
    have e3 : Try.prog.cellsOf 3 = 1 := by kernel_rfl
    rw [e2] at hl2
    generalize hcs : v2.cells.toList = cs at *
    match cs, hl2, xs, hxl with
    | [u0, u1], _, [y0, y1], _ =>
      have g0 := hf 0 (by decide)
      have g1 := hf 1 (by decide)
      simp [e3] at g0 g1
      obtain ⟨a, ha⟩ := Abs.trod_int_cell Try.underlying3 g0
      obtain ⟨b, hb⟩ := Abs.trod_int_cell Try.underlying3 g1
      simp at ha hb
      refine ⟨a, b, ?_⟩
      rw [ha, hb] at hcs
      cases v2 <;> simp [Value.cells] at hcs
      first
        | rw [hcs]
        | exact congrArg Value.agg (Array.toList_inj.1 hcs)
  subst hc hab
  clear hA0 hval0 hsz0
  refine (Abs.FnOk.run (Abs.f6_ok l c a b) (Abs.Reps.cons hl (Abs.Reps.cons (Abs.Rep.agg (vs := [_, _, _, _]) rfl (by simp [Value.oneCell']) (Abs.Reps.cons .int (Abs.Reps.cons .int (Abs.Reps.cons .int (Abs.Reps.cons .int (Abs.Reps.nil ..))))).2) (Abs.Reps.cons (Abs.Rep.agg (vs := [_, _]) rfl (by simp [Value.oneCell']) (Abs.Reps.cons .int (Abs.Reps.cons .int (Abs.Reps.nil ..))).2) (Abs.Reps.nil ..))))).mono fun e W' ⟨he, bel⟩ => ?_
  subst he
  exact ⟨_, rfl, _, _, _, [], _, [], hW', trodAll_mk1 (shut_bool Try.underlying4 _), (trodAll_cons_mk (Below.trod laidOut (by kernel_rfl) (of_decide_eq_true (by kernel_rfl)) k0 bel lt0) (trodAll_cons_mk (Below.trod laidOut (by kernel_rfl) (of_decide_eq_true (by kernel_rfl)) h1 bel lt1) (trodAll_cons_mk (Below.trod laidOut (by kernel_rfl) (of_decide_eq_true (by kernel_rfl)) h2 bel lt2) trodAll_mk0))), rfl, bel.frame _, fun h => by cases h⟩
end SteadyRow
theorem electSteady_holds : Rows.ElectSteadySaid :=
  OpenClaim.holds_of_wide 6 Try.f6 rfl rfl rfl rfl rfl rfl rfl ⟨rfl, rfl, rfl, rfl, rfl⟩ rfl rfl rfl rfl rfl (by kernel_rfl) Try.func6 (by kernel_rfl)
    (of_decide_eq_true (by kernel_rfl)) (by unfold Func.isWrapper; first | (rw [if_pos (by decide +kernel)]; kernel_rfl) | (rw [if_neg (by decide +kernel)]; exact ⟨rfl, rfl⟩))
    (fun os started H enc _ => SteadyRow.lifted os started H enc)
end Go.Proofs.Ytbgnflbbebnagaa
