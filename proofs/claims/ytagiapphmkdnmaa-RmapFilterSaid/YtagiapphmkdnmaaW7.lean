/- The functions walked: each computes its Lean function (printed by this work's own program gen.py). -/
import Derived.Test.YtagiapphmkdnmaaW6
set_option linter.unusedVariables false
set_option linter.unusedSimpArgs false
set_option maxRecDepth 10000
set_option maxHeartbeats 4000000
namespace Go.Proofs.Ytagiapphmkdnmaa.Abs
open Go

theorem f56_ok (x0 : TRule) (R : Int × Int) (hR : F56_crossroadsref07_Bounds x0 = R) : FnOk Try.prog 56 [.agg (TRule.c x0)] [] 0 (.tup [.int .i64 R.1, .int .i64 R.2]) [] 0 := by
  refine FnOk.wk i56 rfl rfl ?_
  unfold F56_crossroadsref07_Bounds at hR
  change WK _ _ _ [ac56] _ ⟨[(0, .agg (TRule.c x0))], [], 0⟩
  unfold ac56
  refine WK.seq ?_
  refine WK.regx mixed ?_
  refine GX.step (v' := .ptr 0 0) (heap' := [(0, .box (TRule.c x0))]) (next' := 1) rfl rfl rfl rfl rfl rfl rfl ?_
  refine GX.pure (v' := .int .i64 0) rfl rfl rfl rfl rfl ?_
  refine GX.pure (v' := .int .i64 0) rfl rfl rfl rfl rfl ?_
  refine GX.done ?_
  refine WK.seq ?_
  refine WK.seq ?_
  refine WK.regx mixed ?_
  refine GX.pure (v' := .ptr 0 4) rfl rfl rfl rfl rfl ?_
  refine GX.pure (v' := .int .i64 x0.Ge) rfl rfl rfl rfl rfl ?_
  refine GX.pure (v' := .bool (decide (x0.Ge = 0))) rfl rfl rfl rfl rfl ?_
  refine GX.pure (v' := .bool (decide (x0.Ge = 0))) rfl rfl rfl rfl rfl ?_
  rcases bool_two (decide (x0.Ge = 0)) with hb1 | hb1
  · rw [hb1]; try simp only [hb1, cond_true, cond_false, Bool.true_and, Bool.false_and, Bool.true_or, Bool.false_or, Bool.not_true, Bool.not_false] at hR
    refine GX.skip rfl rfl ?_
    refine GX.skip rfl rfl ?_
    refine GX.skip rfl rfl ?_
    refine GX.pure (v' := .bool false) rfl rfl rfl rfl rfl ?_
    refine GX.done ?_
    refine WK.condF rfl ?_
    refine WK.skip ?_
    refine WK.seq ?_
    refine WK.drawn mixed ?_
    refine RD.pure (v' := .ptr 0 4) rfl rfl rfl rfl rfl ?_
    refine RD.pure (v' := .int .i64 x0.Ge) rfl rfl rfl rfl rfl ?_
    refine RD.pure (v' := .ptr 0 5) rfl rfl rfl rfl rfl ?_
    refine RD.pure (v' := .int .i64 x0.Le) rfl rfl rfl rfl rfl ?_
    refine RD.pure (v' := .int .i64 x0.Ge) rfl rfl rfl rfl rfl ?_
    refine RD.pure (v' := .int .i64 x0.Le) rfl rfl rfl rfl rfl ?_
    refine RD.done rfl ?_
    refine WK.seq ?_
    refine WK.seq ?_
    refine WK.regx mixed ?_
    refine GX.pure (v' := .int .i64 x0.Ge) rfl rfl rfl rfl rfl ?_
    refine GX.pure (v' := .bool (decide (x0.Ge = 0))) rfl rfl rfl rfl rfl ?_
    refine GX.done ?_
    rw [hb1]
    refine WK.condF rfl ?_
    refine WK.skip ?_
    refine WK.seq ?_
    refine WK.seq ?_
    refine WK.regx mixed ?_
    refine GX.pure (v' := .int .i64 x0.Le) rfl rfl rfl rfl rfl ?_
    refine GX.pure (v' := .bool (decide (x0.Le = 0))) rfl rfl rfl rfl rfl ?_
    refine GX.done ?_
    rcases bool_two (decide (x0.Le = 0)) with hb2 | hb2
    · rw [hb2]; try simp only [hb2, cond_true, cond_false, Bool.true_and, Bool.false_and, Bool.true_or, Bool.false_or, Bool.not_true, Bool.not_false] at hR
      refine WK.condF rfl ?_
      refine WK.skip ?_
      refine WK.seq ?_
      refine WK.regx mixed ?_
      refine GX.pure (v' := .int .i64 x0.Ge) rfl rfl rfl rfl rfl ?_
      refine GX.pure (v' := .int .i64 x0.Le) rfl rfl rfl rfl rfl ?_
      refine GX.pure (v' := .int .i64 x0.Ge) rfl rfl rfl rfl rfl ?_
      refine GX.pure (v' := .int .i64 x0.Le) rfl rfl rfl rfl rfl ?_
      refine GX.done ?_
      refine WK.ret ?_
      subst hR
      exact RetQ.fr [] (.inr rfl) rfl rfl rfl rfl
    · rw [hb2]; try simp only [hb2, cond_true, cond_false, Bool.true_and, Bool.false_and, Bool.true_or, Bool.false_or, Bool.not_true, Bool.not_false] at hR
      refine WK.condT rfl ?_
      refine WK.regx mixed ?_
      refine GX.pure (v' := .int .i64 32) rfl rfl rfl rfl rfl ?_
      refine GX.done ?_
      refine WK.seq ?_
      refine WK.regx mixed ?_
      refine GX.pure (v' := .int .i64 x0.Ge) rfl rfl rfl rfl rfl ?_
      refine GX.pure (v' := .int .i64 32) rfl rfl rfl rfl rfl ?_
      refine GX.pure (v' := .int .i64 x0.Ge) rfl rfl rfl rfl rfl ?_
      refine GX.pure (v' := .int .i64 32) rfl rfl rfl rfl rfl ?_
      refine GX.done ?_
      refine WK.ret ?_
      subst hR
      exact RetQ.fr [] (.inr rfl) rfl rfl rfl rfl
  · rw [hb1]; try simp only [hb1, cond_true, cond_false, Bool.true_and, Bool.false_and, Bool.true_or, Bool.false_or, Bool.not_true, Bool.not_false] at hR
    refine GX.pure (v' := .ptr 0 5) rfl rfl rfl rfl rfl ?_
    refine GX.pure (v' := .int .i64 x0.Le) rfl rfl rfl rfl rfl ?_
    refine GX.pure (v' := .bool (decide (x0.Le = 0))) rfl rfl rfl rfl rfl ?_
    refine GX.pure (v' := .bool (decide (x0.Le = 0))) rfl rfl rfl rfl rfl ?_
    refine GX.done ?_
    rcases bool_two (decide (x0.Le = 0)) with hb3 | hb3
    · rw [hb3]; try simp only [hb3, cond_true, cond_false, Bool.true_and, Bool.false_and, Bool.true_or, Bool.false_or, Bool.not_true, Bool.not_false] at hR
      refine WK.condF rfl ?_
      refine WK.skip ?_
      refine WK.seq ?_
      refine WK.drawn mixed ?_
      refine RD.pure (v' := .ptr 0 4) rfl rfl rfl rfl rfl ?_
      refine RD.pure (v' := .int .i64 x0.Ge) rfl rfl rfl rfl rfl ?_
      refine RD.pure (v' := .ptr 0 5) rfl rfl rfl rfl rfl ?_
      refine RD.pure (v' := .int .i64 x0.Le) rfl rfl rfl rfl rfl ?_
      refine RD.pure (v' := .int .i64 x0.Ge) rfl rfl rfl rfl rfl ?_
      refine RD.pure (v' := .int .i64 x0.Le) rfl rfl rfl rfl rfl ?_
      refine RD.done rfl ?_
      refine WK.seq ?_
      refine WK.seq ?_
      refine WK.regx mixed ?_
      refine GX.pure (v' := .int .i64 x0.Ge) rfl rfl rfl rfl rfl ?_
      refine GX.pure (v' := .bool (decide (x0.Ge = 0))) rfl rfl rfl rfl rfl ?_
      refine GX.done ?_
      rw [hb1]
      refine WK.condT rfl ?_
      refine WK.regx mixed ?_
      refine GX.pure (v' := .ptr 0 2) rfl rfl rfl rfl rfl ?_
      refine GX.pure (v' := .ptr 0 3) rfl rfl rfl rfl rfl ?_
      refine GX.pure (v' := .int .i64 x0.P.N) rfl rfl rfl rfl rfl ?_
      refine GX.pure (v' := .int .i64 x0.P.N) rfl rfl rfl rfl rfl ?_
      refine GX.done ?_
      refine WK.seq ?_
      refine WK.seq ?_
      refine WK.regx mixed ?_
      refine GX.pure (v' := .int .i64 x0.Le) rfl rfl rfl rfl rfl ?_
      refine GX.pure (v' := .bool (decide (x0.Le = 0))) rfl rfl rfl rfl rfl ?_
      refine GX.done ?_
      rw [hb3]
      refine WK.condF rfl ?_
      refine WK.skip ?_
      refine WK.seq ?_
      refine WK.regx mixed ?_
      refine GX.pure (v' := .int .i64 x0.P.N) rfl rfl rfl rfl rfl ?_
      refine GX.pure (v' := .int .i64 x0.Le) rfl rfl rfl rfl rfl ?_
      refine GX.pure (v' := .int .i64 x0.P.N) rfl rfl rfl rfl rfl ?_
      refine GX.pure (v' := .int .i64 x0.Le) rfl rfl rfl rfl rfl ?_
      refine GX.done ?_
      refine WK.ret ?_
      subst hR
      exact RetQ.fr [] (.inr rfl) rfl rfl rfl rfl
    · rw [hb3]; try simp only [hb3, cond_true, cond_false, Bool.true_and, Bool.false_and, Bool.true_or, Bool.false_or, Bool.not_true, Bool.not_false] at hR
      refine WK.condT rfl ?_
      refine WK.seq ?_
      refine WK.drawn mixed ?_
      refine RD.pure (v' := .ptr 0 2) rfl rfl rfl rfl rfl ?_
      refine RD.pure (v' := .ptr 0 3) rfl rfl rfl rfl rfl ?_
      refine RD.pure (v' := .int .i64 x0.P.N) rfl rfl rfl rfl rfl ?_
      refine RD.pure (v' := .ptr 0 2) rfl rfl rfl rfl rfl ?_
      refine RD.pure (v' := .ptr 0 3) rfl rfl rfl rfl rfl ?_
      refine RD.pure (v' := .int .i64 x0.P.N) rfl rfl rfl rfl rfl ?_
      refine RD.pure (v' := .int .i64 x0.P.N) rfl rfl rfl rfl rfl ?_
      refine RD.pure (v' := .int .i64 x0.P.N) rfl rfl rfl rfl rfl ?_
      refine RD.done rfl ?_
      refine WK.ret ?_
      subst hR
      exact RetQ.fr [] (.inr rfl) rfl rfl rfl rfl

theorem f62_ok (p0 : TPrefix) (a1 : Int) (R : Bool) (hR : F62_crossroadsref03_Has p0 a1 = R) : FnOk Try.prog 62 [.agg (TPrefix.c p0), .int .u32 a1] [] 0 (.bool R) [] 0 := by
  refine FnOk.wk i62 rfl rfl ?_
  unfold F62_crossroadsref03_Has at hR
  change WK _ _ _ [ac62] _ ⟨[(0, .agg (TPrefix.c p0)), (1, .int .u32 a1)], [], 0⟩
  unfold ac62
  refine WK.seq ?_
  refine WK.regx mixed ?_
  refine GX.step (v' := .ptr 0 0) (heap' := [(0, .box (TPrefix.c p0))]) (next' := 1) rfl rfl rfl rfl rfl rfl rfl ?_
  refine GX.pure (v' := .bool false) rfl rfl rfl rfl rfl ?_
  refine GX.done ?_
  refine WK.seq ?_
  refine WK.seq ?_
  refine WK.regx mixed ?_
  refine GX.pure (v' := .agg (TPrefix.c p0)) rfl rfl rfl rfl rfl ?_
  generalize hc7 : F53_crossroadsref03_May p0 = c7 at hR
  try dsimp only at hR
  refine GX.callp (r := .bool c7) rfl rfl rfl (f53_ok p0 _ hc7) rfl rfl ?_
  refine GX.pure (v' := .bool (!c7)) rfl rfl rfl rfl rfl ?_
  refine GX.done ?_
  rcases bool_two (c7) with hb1 | hb1
  · rw [hb1]; try simp only [hb1, cond_true, cond_false, Bool.true_and, Bool.false_and, Bool.true_or, Bool.false_or, Bool.not_true, Bool.not_false] at hR
    refine WK.condT rfl ?_
    refine WK.seq ?_
    refine WK.regx mixed ?_
    refine GX.pure (v' := .bool false) rfl rfl rfl rfl rfl ?_
    refine GX.done ?_
    refine WK.ret ?_
    subst hR
    exact RetQ.fr [] (.inr rfl) rfl rfl rfl rfl
  · rw [hb1]; try simp only [hb1, cond_true, cond_false, Bool.true_and, Bool.false_and, Bool.true_or, Bool.false_or, Bool.not_true, Bool.not_false] at hR
    refine WK.condF rfl ?_
    refine WK.skip ?_
    refine WK.seq ?_
    refine WK.seq ?_
    refine WK.regx mixed ?_
    refine GX.pure (v' := .int .i64 0) rfl rfl rfl rfl rfl ?_
    refine GX.done ?_
    generalize hZ_2 : F62_crossroadsref03_Has_l1 p0 a1 (fuelUp 0 p0.N) 0 = Z_2 at hR
    refine WK.forK (fun k s => ∃ (i5 : Int), fuelUp i5 p0.N ≤ k ∧ F62_crossroadsref03_Has_l1 p0 a1 k i5 = Z_2 ∧ s = ⟨[(1, .int .u32 a1), (2, .ptr 0 0), (5, .int .i64 i5)], [(0, .box (TPrefix.c p0))], 1⟩) (fuelUp 0 p0.N) ⟨⟨[(1, .int .u32 a1), (2, .ptr 0 0), (5, .int .i64 0)], [(0, .box (TPrefix.c p0))], 1⟩, Conv.keep [0] [] [1, 2, 5] rfl rfl (viewE_cons rfl rfl (viewE_cons rfl rfl (viewE_cons rfl rfl viewE_nil))) rfl rfl, 0, Nat.le_refl _, hZ_2, rfl⟩ ?_
    rintro k2 _ ⟨i5, hfu2, hL_2, rfl⟩ again_2 out_2 Q_2 hagain_2 hout_2 hQ_2
    refine WK.seq ?_
    refine WK.seq ?_
    refine WK.regx mixed ?_
    refine GX.pure (v' := .int .i64 i5) rfl rfl rfl rfl rfl ?_
    refine GX.pure (v' := .ptr 0 1) rfl rfl rfl rfl rfl ?_
    refine GX.pure (v' := .int .i64 p0.N) rfl rfl rfl rfl rfl ?_
    refine GX.pure (v' := .bool (decide (i5 < p0.N))) rfl rfl rfl rfl rfl ?_
    refine GX.done ?_
    rcases bool_two (decide (i5 < p0.N)) with hb3 | hb3
    · rw [hb3]
      unfold F62_crossroadsref03_Has_l1 at hL_2; rw [hb3, cond_false] at hL_2
      refine WK.condF rfl ?_
      refine WK.exit ?_
      refine QF.exit (hout_2 _ ?_)
      subst hL_2
      try dsimp only [cond_true, cond_false] at hR
      refine WK.seq ?_
      refine WK.regx mixed ?_
      refine GX.pure (v' := .bool true) rfl rfl rfl rfl rfl ?_
      refine GX.done ?_
      refine WK.ret ?_
      subst hR
      exact RetQ.fr [] (.inr rfl) rfl rfl rfl rfl
    · rw [hb3]
      obtain ⟨f2, rfl⟩ := fuel_pos hb3 hfu2
      unfold F62_crossroadsref03_Has_l1 at hL_2; rw [hb3, cond_true] at hL_2; dsimp only at hL_2
      refine WK.condT rfl ?_
      refine WK.skip ?_
      refine WK.seq ?_
      refine WK.blockK (fun _ hK4 => ?_)
      refine WK.seq ?_
      refine WK.regx mixed ?_
      refine GX.pure (v' := .ptr 0 0) rfl rfl rfl rfl rfl ?_
      refine GX.pure (v' := .int .u32 p0.A) rfl rfl rfl rfl rfl ?_
      refine GX.pure (v' := .int .i64 i5) rfl rfl rfl rfl rfl ?_
      generalize hc18 : F60_crossroadsref03_Bit p0.A i5 = c18 at hL_2
      try dsimp only at hL_2
      refine GX.callp (r := .int .i64 c18) rfl rfl rfl (f60_ok p0.A i5 _ hc18) rfl rfl ?_
      refine GX.pure (v' := .int .u32 a1) rfl rfl rfl rfl rfl ?_
      refine GX.pure (v' := .int .i64 i5) rfl rfl rfl rfl rfl ?_
      generalize hc21 : F60_crossroadsref03_Bit a1 i5 = c21 at hL_2
      try dsimp only at hL_2
      refine GX.callp (r := .int .i64 c21) rfl rfl rfl (f60_ok a1 i5 _ hc21) rfl rfl ?_
      refine GX.pure (v' := .bool (!decide (c18 = c21))) rfl rfl rfl rfl rfl ?_
      refine GX.done ?_
      rcases bool_two (decide (c18 = c21)) with hb5 | hb5
      · rw [hb5]; try simp only [hb5, cond_true, cond_false, Bool.true_and, Bool.false_and, Bool.true_or, Bool.false_or, Bool.not_true, Bool.not_false] at hL_2
        refine WK.condT rfl ?_
        refine WK.seq ?_
        refine WK.regx mixed ?_
        refine GX.pure (v' := .bool false) rfl rfl rfl rfl rfl ?_
        refine GX.done ?_
        refine WK.ret ?_
        refine QF.ret ?_
        refine QF.ret (hQ_2 _ _ ?_)
        subst hL_2
        subst hR
        exact RetQ.fr [] (.inr rfl) rfl rfl rfl rfl
      · rw [hb5]; try simp only [hb5, cond_true, cond_false, Bool.true_and, Bool.false_and, Bool.true_or, Bool.false_or, Bool.not_true, Bool.not_false] at hL_2
        refine WK.condF rfl ?_
        refine WK.skip ?_
        refine WK.nil (QF.normal (hK4 _ ?_))
        refine WK.regx mixed ?_
        refine GX.pure (v' := .int .i64 i5) rfl rfl rfl rfl rfl ?_
        refine GX.pure (v' := .int .i64 (IntKind.i64.wrap (i5 + 1))) rfl rfl rfl rfl rfl ?_
        refine GX.pure (v' := .int .i64 (IntKind.i64.wrap (i5 + 1))) rfl rfl rfl rfl rfl ?_
        refine GX.done ?_
        refine WK.nil (QF.normal ?_)
        exact hagain_2 _ f2 ⟨[(1, .int .u32 a1), (2, .ptr 0 0), (5, .int .i64 (IntKind.i64.wrap (i5 + 1)))], [(0, .box (TPrefix.c p0))], 1⟩ (Nat.lt_succ_self _) (Conv.keep [0] [] [1, 2, 5] rfl rfl (viewE_cons rfl rfl (viewE_cons rfl rfl (viewE_cons rfl rfl viewE_nil))) rfl rfl) ⟨(IntKind.i64.wrap (i5 + 1)), fuel_up hb3 (by first | omega | ((try simp only [List.length_append, List.length_cons, List.length_nil] at *) <;> omega) | (have hlf := may03_len (by assumption) (by assumption); omega)) hfu2, hL_2, rfl⟩

theorem f57_ok (p0 : TPrefix) (q1 : TPrefix) (R : Bool) (hR : F57_crossroadsref03_Covers p0 q1 = R) : FnOk Try.prog 57 [.agg (TPrefix.c p0), .agg (TPrefix.c q1)] [] 0 (.bool R) [] 0 := by
  refine FnOk.wk i57 rfl rfl ?_
  unfold F57_crossroadsref03_Covers at hR
  change WK _ _ _ [ac57] _ ⟨[(0, .agg (TPrefix.c p0)), (1, .agg (TPrefix.c q1))], [], 0⟩
  unfold ac57
  refine WK.seq ?_
  refine WK.regx mixed ?_
  refine GX.step (v' := .ptr 0 0) (heap' := [(0, .box (TPrefix.c p0))]) (next' := 1) rfl rfl rfl rfl rfl rfl rfl ?_
  refine GX.step (v' := .ptr 1 0) (heap' := [(0, .box (TPrefix.c p0)), (1, .box (TPrefix.c q1))]) (next' := 2) rfl rfl rfl rfl rfl rfl rfl ?_
  refine GX.pure (v' := .bool false) rfl rfl rfl rfl rfl ?_
  refine GX.done ?_
  refine WK.seq ?_
  refine WK.regx mixed ?_
  refine GX.pure (v' := .agg (TPrefix.c p0)) rfl rfl rfl rfl rfl ?_
  generalize hc6 : F53_crossroadsref03_May p0 = c6 at hR
  try dsimp only at hR
  refine GX.callp (r := .bool c6) rfl rfl rfl (f53_ok p0 _ hc6) rfl rfl ?_
  refine GX.pure (v' := .bool c6) rfl rfl rfl rfl rfl ?_
  rcases bool_two (c6) with hb1 | hb1
  · rw [hb1]; try simp only [hb1, cond_true, cond_false, Bool.true_and, Bool.false_and, Bool.true_or, Bool.false_or, Bool.not_true, Bool.not_false] at hR
    refine GX.skip rfl rfl ?_
    refine GX.skip rfl rfl ?_
    refine GX.pure (v' := .bool false) rfl rfl rfl rfl rfl ?_
    refine GX.pure (v' := .bool false) rfl rfl rfl rfl rfl ?_
    refine GX.skip rfl rfl ?_
    refine GX.skip rfl rfl ?_
    refine GX.skip rfl rfl ?_
    refine GX.skip rfl rfl ?_
    refine GX.skip rfl rfl ?_
    refine GX.pure (v' := .bool false) rfl rfl rfl rfl rfl ?_
    refine GX.pure (v' := .bool false) rfl rfl rfl rfl rfl ?_
    refine GX.skip rfl rfl ?_
    refine GX.skip rfl rfl ?_
    refine GX.skip rfl rfl ?_
    refine GX.skip rfl rfl ?_
    refine GX.pure (v' := .bool false) rfl rfl rfl rfl rfl ?_
    refine GX.pure (v' := .bool false) rfl rfl rfl rfl rfl ?_
    refine GX.done ?_
    refine WK.ret ?_
    subst hR
    exact RetQ.fr [] (.inr rfl) rfl rfl rfl rfl
  · rw [hb1]; try simp only [hb1, cond_true, cond_false, Bool.true_and, Bool.false_and, Bool.true_or, Bool.false_or, Bool.not_true, Bool.not_false] at hR
    refine GX.pure (v' := .agg (TPrefix.c q1)) rfl rfl rfl rfl rfl ?_
    generalize hc9 : F53_crossroadsref03_May q1 = c9 at hR
    try dsimp only at hR
    refine GX.callp (r := .bool c9) rfl rfl rfl (f53_ok q1 _ hc9) rfl rfl ?_
    refine GX.pure (v' := .bool c9) rfl rfl rfl rfl rfl ?_
    refine GX.pure (v' := .bool c9) rfl rfl rfl rfl rfl ?_
    rcases bool_two (c9) with hb2 | hb2
    · rw [hb2]; try simp only [hb2, cond_true, cond_false, Bool.true_and, Bool.false_and, Bool.true_or, Bool.false_or, Bool.not_true, Bool.not_false] at hR
      refine GX.skip rfl rfl ?_
      refine GX.skip rfl rfl ?_
      refine GX.skip rfl rfl ?_
      refine GX.skip rfl rfl ?_
      refine GX.skip rfl rfl ?_
      refine GX.pure (v' := .bool false) rfl rfl rfl rfl rfl ?_
      refine GX.pure (v' := .bool false) rfl rfl rfl rfl rfl ?_
      refine GX.skip rfl rfl ?_
      refine GX.skip rfl rfl ?_
      refine GX.skip rfl rfl ?_
      refine GX.skip rfl rfl ?_
      refine GX.pure (v' := .bool false) rfl rfl rfl rfl rfl ?_
      refine GX.pure (v' := .bool false) rfl rfl rfl rfl rfl ?_
      refine GX.done ?_
      refine WK.ret ?_
      subst hR
      exact RetQ.fr [] (.inr rfl) rfl rfl rfl rfl
    · rw [hb2]; try simp only [hb2, cond_true, cond_false, Bool.true_and, Bool.false_and, Bool.true_or, Bool.false_or, Bool.not_true, Bool.not_false] at hR
      refine GX.pure (v' := .ptr 1 1) rfl rfl rfl rfl rfl ?_
      refine GX.pure (v' := .int .i64 q1.N) rfl rfl rfl rfl rfl ?_
      refine GX.pure (v' := .ptr 0 1) rfl rfl rfl rfl rfl ?_
      refine GX.pure (v' := .int .i64 p0.N) rfl rfl rfl rfl rfl ?_
      refine GX.pure (v' := .bool (decide (p0.N ≤ q1.N))) rfl rfl rfl rfl rfl ?_
      refine GX.pure (v' := .bool (decide (p0.N ≤ q1.N))) rfl rfl rfl rfl rfl ?_
      refine GX.pure (v' := .bool (decide (p0.N ≤ q1.N))) rfl rfl rfl rfl rfl ?_
      rcases bool_two (decide (p0.N ≤ q1.N)) with hb3 | hb3
      · rw [hb3]; try simp only [hb3, cond_true, cond_false, Bool.true_and, Bool.false_and, Bool.true_or, Bool.false_or, Bool.not_true, Bool.not_false] at hR
        refine GX.skip rfl rfl ?_
        refine GX.skip rfl rfl ?_
        refine GX.skip rfl rfl ?_
        refine GX.skip rfl rfl ?_
        refine GX.pure (v' := .bool false) rfl rfl rfl rfl rfl ?_
        refine GX.pure (v' := .bool false) rfl rfl rfl rfl rfl ?_
        refine GX.done ?_
        refine WK.ret ?_
        subst hR
        exact RetQ.fr [] (.inr rfl) rfl rfl rfl rfl
      · rw [hb3]; try simp only [hb3, cond_true, cond_false, Bool.true_and, Bool.false_and, Bool.true_or, Bool.false_or, Bool.not_true, Bool.not_false] at hR
        refine GX.pure (v' := .agg (TPrefix.c p0)) rfl rfl rfl rfl rfl ?_
        refine GX.pure (v' := .ptr 1 0) rfl rfl rfl rfl rfl ?_
        refine GX.pure (v' := .int .u32 q1.A) rfl rfl rfl rfl rfl ?_
        generalize hc22 : F62_crossroadsref03_Has p0 q1.A = c22 at hR
        try dsimp only at hR
        refine GX.callp (r := .bool c22) rfl rfl rfl (f62_ok p0 q1.A _ hc22) rfl rfl ?_
        refine GX.pure (v' := .bool c22) rfl rfl rfl rfl rfl ?_
        refine GX.pure (v' := .bool c22) rfl rfl rfl rfl rfl ?_
        refine GX.done ?_
        refine WK.ret ?_
        subst hR
        exact RetQ.fr [] (.inr rfl) rfl rfl rfl rfl

theorem f51_ok (x0 : TRule) (q1 : TPrefix) (R : Bool) (hR : F51_crossroadsref07_Means x0 q1 = R) : FnOk Try.prog 51 [.agg (TRule.c x0), .agg (TPrefix.c q1)] [] 0 (.bool R) [] 0 := by
  refine FnOk.wk i51 rfl rfl ?_
  unfold F51_crossroadsref07_Means at hR
  change WK _ _ _ [ac51] _ ⟨[(0, .agg (TRule.c x0)), (1, .agg (TPrefix.c q1))], [], 0⟩
  unfold ac51
  refine WK.seq ?_
  refine WK.regx mixed ?_
  refine GX.step (v' := .ptr 0 0) (heap' := [(0, .box (TRule.c x0))]) (next' := 1) rfl rfl rfl rfl rfl rfl rfl ?_
  refine GX.step (v' := .ptr 1 0) (heap' := [(0, .box (TRule.c x0)), (1, .box (TPrefix.c q1))]) (next' := 2) rfl rfl rfl rfl rfl rfl rfl ?_
  refine GX.pure (v' := .bool false) rfl rfl rfl rfl rfl ?_
  refine GX.done ?_
  refine WK.seq ?_
  refine WK.regx mixed ?_
  refine GX.pure (v' := .agg (TRule.c x0)) rfl rfl rfl rfl rfl ?_
  generalize hc9 : F56_crossroadsref07_Bounds x0 = c9 at hR
  obtain ⟨c9a, c9b⟩ := c9; try dsimp only at hR
  refine GX.callp (r := .tup [.int .i64 c9a, .int .i64 c9b]) rfl rfl rfl (f56_ok x0 _ hc9) rfl rfl ?_
  refine GX.pure (v' := .tup [.int .i64 c9a, .int .i64 c9b]) rfl rfl rfl rfl rfl ?_
  refine GX.pure (v' := .int .i64 c9a) rfl rfl rfl rfl rfl ?_
  refine GX.pure (v' := .int .i64 c9b) rfl rfl rfl rfl rfl ?_
  refine GX.pure (v' := .int .i64 c9a) rfl rfl rfl rfl rfl ?_
  refine GX.pure (v' := .int .i64 c9b) rfl rfl rfl rfl rfl ?_
  refine GX.done ?_
  refine WK.seq ?_
  refine WK.regx mixed ?_
  refine GX.pure (v' := .agg (TRule.c x0)) rfl rfl rfl rfl rfl ?_
  generalize hc13 : F46_crossroadsref07_May x0 = c13 at hR
  try dsimp only at hR
  refine GX.callp (r := .bool c13) rfl rfl rfl (f46_ok x0 _ hc13) rfl rfl ?_
  refine GX.pure (v' := .bool c13) rfl rfl rfl rfl rfl ?_
  rcases bool_two (c13) with hb1 | hb1
  · rw [hb1]; try simp only [hb1, cond_true, cond_false, Bool.true_and, Bool.false_and, Bool.true_or, Bool.false_or, Bool.not_true, Bool.not_false] at hR
    refine GX.skip rfl rfl ?_
    refine GX.skip rfl rfl ?_
    refine GX.skip rfl rfl ?_
    refine GX.skip rfl rfl ?_
    refine GX.pure (v' := .bool false) rfl rfl rfl rfl rfl ?_
    refine GX.pure (v' := .bool false) rfl rfl rfl rfl rfl ?_
    refine GX.skip rfl rfl ?_
    refine GX.skip rfl rfl ?_
    refine GX.skip rfl rfl ?_
    refine GX.skip rfl rfl ?_
    refine GX.pure (v' := .bool false) rfl rfl rfl rfl rfl ?_
    refine GX.pure (v' := .bool false) rfl rfl rfl rfl rfl ?_
    refine GX.skip rfl rfl ?_
    refine GX.skip rfl rfl ?_
    refine GX.skip rfl rfl ?_
    refine GX.skip rfl rfl ?_
    refine GX.pure (v' := .bool false) rfl rfl rfl rfl rfl ?_
    refine GX.pure (v' := .bool false) rfl rfl rfl rfl rfl ?_
    refine GX.done ?_
    refine WK.ret ?_
    subst hR
    exact RetQ.fr [] (.inr rfl) rfl rfl rfl rfl
  · rw [hb1]; try simp only [hb1, cond_true, cond_false, Bool.true_and, Bool.false_and, Bool.true_or, Bool.false_or, Bool.not_true, Bool.not_false] at hR
    refine GX.pure (v' := .ptr 0 2) rfl rfl rfl rfl rfl ?_
    refine GX.pure (v' := .agg [.int .u32 x0.P.A, .int .i64 x0.P.N]) rfl rfl rfl rfl rfl ?_
    refine GX.pure (v' := .agg (TPrefix.c q1)) rfl rfl rfl rfl rfl ?_
    generalize hc18 : F57_crossroadsref03_Covers x0.P q1 = c18 at hR
    try dsimp only at hR
    refine GX.callp (r := .bool c18) rfl rfl rfl (f57_ok x0.P q1 _ hc18) rfl rfl ?_
    refine GX.pure (v' := .bool c18) rfl rfl rfl rfl rfl ?_
    refine GX.pure (v' := .bool c18) rfl rfl rfl rfl rfl ?_
    rcases bool_two (c18) with hb2 | hb2
    · rw [hb2]; try simp only [hb2, cond_true, cond_false, Bool.true_and, Bool.false_and, Bool.true_or, Bool.false_or, Bool.not_true, Bool.not_false] at hR
      refine GX.skip rfl rfl ?_
      refine GX.skip rfl rfl ?_
      refine GX.skip rfl rfl ?_
      refine GX.skip rfl rfl ?_
      refine GX.pure (v' := .bool false) rfl rfl rfl rfl rfl ?_
      refine GX.pure (v' := .bool false) rfl rfl rfl rfl rfl ?_
      refine GX.skip rfl rfl ?_
      refine GX.skip rfl rfl ?_
      refine GX.skip rfl rfl ?_
      refine GX.skip rfl rfl ?_
      refine GX.pure (v' := .bool false) rfl rfl rfl rfl rfl ?_
      refine GX.pure (v' := .bool false) rfl rfl rfl rfl rfl ?_
      refine GX.done ?_
      refine WK.ret ?_
      subst hR
      exact RetQ.fr [] (.inr rfl) rfl rfl rfl rfl
    · rw [hb2]; try simp only [hb2, cond_true, cond_false, Bool.true_and, Bool.false_and, Bool.true_or, Bool.false_or, Bool.not_true, Bool.not_false] at hR
      refine GX.pure (v' := .ptr 1 1) rfl rfl rfl rfl rfl ?_
      refine GX.pure (v' := .int .i64 q1.N) rfl rfl rfl rfl rfl ?_
      refine GX.pure (v' := .int .i64 c9a) rfl rfl rfl rfl rfl ?_
      refine GX.pure (v' := .bool (decide (c9a ≤ q1.N))) rfl rfl rfl rfl rfl ?_
      refine GX.pure (v' := .bool (decide (c9a ≤ q1.N))) rfl rfl rfl rfl rfl ?_
      refine GX.pure (v' := .bool (decide (c9a ≤ q1.N))) rfl rfl rfl rfl rfl ?_
      rcases bool_two (decide (c9a ≤ q1.N)) with hb3 | hb3
      · rw [hb3]; try simp only [hb3, cond_true, cond_false, Bool.true_and, Bool.false_and, Bool.true_or, Bool.false_or, Bool.not_true, Bool.not_false] at hR
        refine GX.skip rfl rfl ?_
        refine GX.skip rfl rfl ?_
        refine GX.skip rfl rfl ?_
        refine GX.skip rfl rfl ?_
        refine GX.pure (v' := .bool false) rfl rfl rfl rfl rfl ?_
        refine GX.pure (v' := .bool false) rfl rfl rfl rfl rfl ?_
        refine GX.done ?_
        refine WK.ret ?_
        subst hR
        exact RetQ.fr [] (.inr rfl) rfl rfl rfl rfl
      · rw [hb3]; try simp only [hb3, cond_true, cond_false, Bool.true_and, Bool.false_and, Bool.true_or, Bool.false_or, Bool.not_true, Bool.not_false] at hR
        refine GX.pure (v' := .ptr 1 1) rfl rfl rfl rfl rfl ?_
        refine GX.pure (v' := .int .i64 q1.N) rfl rfl rfl rfl rfl ?_
        refine GX.pure (v' := .int .i64 c9b) rfl rfl rfl rfl rfl ?_
        refine GX.pure (v' := .bool (decide (q1.N ≤ c9b))) rfl rfl rfl rfl rfl ?_
        refine GX.pure (v' := .bool (decide (q1.N ≤ c9b))) rfl rfl rfl rfl rfl ?_
        refine GX.pure (v' := .bool (decide (q1.N ≤ c9b))) rfl rfl rfl rfl rfl ?_
        refine GX.done ?_
        refine WK.ret ?_
        subst hR
        exact RetQ.fr [] (.inr rfl) rfl rfl rfl rfl

theorem f40_ok (l0 : List TRule) (q1 : TPrefix) (R : Bool × Int) (hR : F40_crossroadsref07_Eval l0 q1 = R) : FnOk Try.prog 40 [.ro 6 (l0.map TRule.c), .agg (TPrefix.c q1)] [] 0 (.tup [.bool R.1, .int .i64 R.2]) [] 0 := by
  refine FnOk.wk i40 rfl rfl ?_
  unfold F40_crossroadsref07_Eval at hR
  change WK _ _ _ [ac40] _ ⟨[(0, .ro 6 (l0.map TRule.c)), (1, .agg (TPrefix.c q1))], [], 0⟩
  unfold ac40
  refine WK.seq ?_
  refine WK.regx mixed ?_
  refine GX.step (v' := .ptr 0 0) (heap' := [(0, .box (TPrefix.c q1))]) (next' := 1) rfl rfl rfl rfl rfl rfl rfl ?_
  refine GX.pure (v' := .bool false) rfl rfl rfl rfl rfl ?_
  refine GX.pure (v' := .int .i64 0) rfl rfl rfl rfl rfl ?_
  refine GX.done ?_
  refine WK.seq ?_
  refine WK.seq ?_
  refine WK.regx mixed ?_
  refine GX.pure (v' := .int .i64 0) rfl rfl rfl rfl rfl ?_
  refine GX.done ?_
  refine WK.len (t := 0) rfl (by simp) (fun hlen_1 => ?_)
  rw [List.length_map] at hlen_1
  generalize hZ_1 : F40_crossroadsref07_Eval_l1 q1 l0 = Z_1 at hR
  refine WK.forK (fun k s => ∃ (i6 : Nat), i6 ≤ l0.length ∧ k = l0.length - i6 ∧ F40_crossroadsref07_Eval_l1 q1 (l0.drop i6) = Z_1 ∧ s = ⟨[(0, .ro 6 (l0.map TRule.c)), (3, .ptr 0 0), (6, .int .i64 (i6 : Int))], [(0, .box (TPrefix.c q1))], 1⟩) l0.length ⟨⟨[(0, .ro 6 (l0.map TRule.c)), (3, .ptr 0 0), (6, .int .i64 (0 : Int))], [(0, .box (TPrefix.c q1))], 1⟩, Conv.keep [0] [] [0, 3, 6] rfl rfl (viewE_cons rfl rfl (viewE_cons rfl rfl (viewE_cons rfl rfl viewE_nil))) rfl rfl, 0, (by first | omega | ((try simp only [List.length_append, List.length_cons, List.length_nil] at *) <;> omega) | (have hlf := may03_len (by assumption) (by assumption); omega)), rfl, hZ_1, rfl⟩ ?_
  rintro _ _ ⟨i6, hi_1, rfl, hL_1, rfl⟩ again_1 out_1 Q_1 hagain_1 hout_1 hQ_1
  refine WK.seq ?_
  refine WK.seq ?_
  refine WK.regx mixed ?_
  refine GX.pure (v' := .int .i64 (i6 : Int)) rfl rfl rfl rfl rfl ?_
  refine GX.pure (v' := .ro 6 (l0.map TRule.c)) rfl rfl rfl rfl rfl ?_
  refine GX.pure (v' := .int .i64 (l0.length : Int)) rfl rfl rfl rfl (len_map _ _) ?_
  refine GX.pure (v' := .bool (decide ((i6 : Int) < (l0.length : Int)))) rfl rfl rfl rfl rfl ?_
  refine GX.done ?_
  rcases bool_two (decide ((i6 : Int) < (l0.length : Int))) with hb2 | hb2
  · rw [hb2]
    rw [drop_end hb2, F40_crossroadsref07_Eval_l1] at hL_1
    refine WK.condF rfl ?_
    refine WK.exit ?_
    refine QF.exit (hout_1 _ ?_)
    subst hL_1
    try dsimp only [cond_true, cond_false] at hR
    refine WK.seq ?_
    refine WK.regx mixed ?_
    refine GX.pure (v' := .bool false) rfl rfl rfl rfl rfl ?_
    refine GX.pure (v' := .int .i64 0) rfl rfl rfl rfl rfl ?_
    refine GX.done ?_
    refine WK.ret ?_
    subst hR
    exact RetQ.fr [] (.inr rfl) rfl rfl rfl rfl
  · rw [hb2]
    obtain ⟨x6, hx1, hd1, hlt1⟩ := drop_more hb2
    rw [hd1, F40_crossroadsref07_Eval_l1] at hL_1
    refine WK.condT rfl ?_
    refine WK.skip ?_
    refine WK.seq ?_
    refine WK.blockK (fun _ hK3 => ?_)
    refine WK.seq ?_
    refine WK.drawn mixed ?_
    refine RD.pure (v' := .ro 6 (l0.map TRule.c)) rfl rfl rfl rfl rfl ?_
    refine RD.pure (v' := .int .i64 (i6 : Int)) rfl rfl rfl rfl rfl ?_
    refine RD.idxT (c := TRule.c) (x := x6) rfl rfl rfl (Int.natCast_nonneg _) hx1 ?_
    refine RD.pure (v' := .agg (TRule.c x6)) rfl rfl rfl rfl rfl ?_
    refine RD.pure (v' := .agg (TPrefix.c q1)) rfl rfl rfl rfl rfl ?_
    generalize hc18 : F51_crossroadsref07_Means x6 q1 = c18 at hL_1
    try dsimp only at hL_1
    refine RD.callp (r := .bool c18) rfl rfl rfl (f51_ok x6 q1 _ hc18) rfl rfl ?_
    refine RD.done rfl ?_
    rcases bool_two (c18) with hb4 | hb4
    · rw [hb4]; try simp only [hb4, cond_true, cond_false, Bool.true_and, Bool.false_and, Bool.true_or, Bool.false_or, Bool.not_true, Bool.not_false] at hL_1
      refine WK.condF rfl ?_
      refine WK.skip ?_
      refine WK.nil (QF.normal (hK3 _ ?_))
      refine WK.regx mixed ?_
      refine GX.pure (v' := .int .i64 (i6 : Int)) rfl rfl rfl rfl rfl ?_
      refine GX.pure (v' := .int .i64 ((i6 + 1 : Nat) : Int)) rfl rfl rfl rfl (congrArg (PVal.int .i64) (wrap_up hlt1 hlen_1)) ?_
      refine GX.pure (v' := .int .i64 ((i6 + 1 : Nat) : Int)) rfl rfl rfl rfl rfl ?_
      refine GX.done ?_
      refine WK.nil (QF.normal ?_)
      exact hagain_1 _ (l0.length - (i6 + 1)) ⟨[(0, .ro 6 (l0.map TRule.c)), (3, .ptr 0 0), (6, .int .i64 ((i6 + 1) : Int))], [(0, .box (TPrefix.c q1))], 1⟩ (by first | omega | ((try simp only [List.length_append, List.length_cons, List.length_nil] at *) <;> omega) | (have hlf := may03_len (by assumption) (by assumption); omega)) (Conv.keep [0] [] [0, 3, 6] rfl rfl (viewE_cons rfl rfl (viewE_cons rfl rfl (viewE_cons rfl rfl viewE_nil))) rfl rfl) ⟨i6 + 1, (by first | omega | ((try simp only [List.length_append, List.length_cons, List.length_nil] at *) <;> omega) | (have hlf := may03_len (by assumption) (by assumption); omega)), rfl, hL_1, rfl⟩
    · rw [hb4]; try simp only [hb4, cond_true, cond_false, Bool.true_and, Bool.false_and, Bool.true_or, Bool.false_or, Bool.not_true, Bool.not_false] at hL_1
      refine WK.condT rfl ?_
      refine WK.seq ?_
      refine WK.drawn mixed ?_
      refine RD.pure (v' := .ro 6 (l0.map TRule.c)) rfl rfl rfl rfl rfl ?_
      refine RD.pure (v' := .int .i64 (i6 : Int)) rfl rfl rfl rfl rfl ?_
      refine RD.idxT (c := TRule.c) (x := x6) rfl rfl rfl (Int.natCast_nonneg _) hx1 ?_
      refine RD.pure (v' := .rptr [.bool x6.Permit, .int .u32 x6.P.A, .int .i64 x6.P.N, .int .i64 x6.Ge, .int .i64 x6.Le]) rfl rfl rfl rfl rfl ?_
      refine RD.pure (v' := .bool x6.Permit) rfl rfl rfl rfl rfl ?_
      refine RD.pure (v' := .ro 6 (l0.map TRule.c)) rfl rfl rfl rfl rfl ?_
      refine RD.pure (v' := .int .i64 (i6 : Int)) rfl rfl rfl rfl rfl ?_
      refine RD.idxT (c := TRule.c) (x := x6) rfl rfl rfl (Int.natCast_nonneg _) hx1 ?_
      refine RD.pure (v' := .rptr (TRule.c x6)) rfl rfl rfl rfl rfl ?_
      refine RD.pure (v' := .int .i64 x6.Seq) rfl rfl rfl rfl rfl ?_
      refine RD.pure (v' := .bool x6.Permit) rfl rfl rfl rfl rfl ?_
      refine RD.pure (v' := .int .i64 x6.Seq) rfl rfl rfl rfl rfl ?_
      refine RD.done rfl ?_
      refine WK.ret ?_
      refine QF.ret ?_
      refine QF.ret (hQ_1 _ _ ?_)
      subst hL_1
      subst hR
      exact RetQ.fr [] (.inr rfl) rfl rfl rfl rfl

end Go.Proofs.Ytagiapphmkdnmaa.Abs
