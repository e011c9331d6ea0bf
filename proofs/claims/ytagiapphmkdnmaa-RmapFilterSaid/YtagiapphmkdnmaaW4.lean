/- The functions walked: each computes its Lean function (printed by this work's own program gen.py). -/
import Derived.Test.YtagiapphmkdnmaaW3
set_option linter.unusedVariables false
set_option linter.unusedSimpArgs false
set_option maxRecDepth 10000
set_option maxHeartbeats 4000000
namespace Go.Proofs.Ytagiapphmkdnmaa.Abs
open Go

theorem f39_ok (s0 : List Int) (v1 : Int) (R : Bool) (hR : F39_slices_Contains s0 v1 = R) : FnOk Try.prog 39 [.ro 1 (s0.map c_u32), .int .u32 v1] [] 0 (.bool R) [] 0 := by
  refine FnOk.wk i39 rfl rfl ?_
  unfold F39_slices_Contains at hR
  change WK _ _ _ [ac39] _ ⟨[(0, .ro 1 (s0.map c_u32)), (1, .int .u32 v1)], [], 0⟩
  unfold ac39
  refine WK.seq ?_
  refine WK.regx mixed ?_
  refine GX.pure (v' := .bool false) rfl rfl rfl rfl rfl ?_
  refine GX.done ?_
  refine WK.seq ?_
  refine WK.regx mixed ?_
  refine GX.pure (v' := .ro 1 (s0.map c_u32)) rfl rfl rfl rfl rfl ?_
  refine GX.pure (v' := .int .u32 v1) rfl rfl rfl rfl rfl ?_
  generalize hc7 : F50_slices_Index s0 v1 = c7 at hR
  try dsimp only at hR
  refine GX.callp (r := .int .i64 c7) rfl rfl rfl (f50_ok s0 v1 _ hc7) rfl rfl ?_
  refine GX.pure (v' := .bool (decide (0 ≤ c7))) rfl rfl rfl rfl rfl ?_
  refine GX.pure (v' := .bool (decide (0 ≤ c7))) rfl rfl rfl rfl rfl ?_
  refine GX.done ?_
  refine WK.ret ?_
  subst hR
  exact RetQ.fr [] (.inr rfl) rfl rfl rfl rfl

theorem f18_ok (x0 : TClause) (t1 : TRoute) (R : Bool) (hR : F18_rmap_Matches x0 t1 = R) : FnOk Try.prog 18 [.agg (TClause.c x0), .agg (TRoute.c t1)] [] 0 (.bool R) [] 0 := by
  refine FnOk.wk i18 rfl rfl ?_
  unfold F18_rmap_Matches at hR
  change WK _ _ _ [ac18] _ ⟨[(0, .agg (TClause.c x0)), (1, .agg (TRoute.c t1))], [], 0⟩
  unfold ac18
  refine WK.seq ?_
  refine WK.regx mixed ?_
  refine GX.step (v' := .ptr 0 0) (heap' := [(0, .box (TClause.c x0))]) (next' := 1) rfl rfl rfl rfl rfl rfl rfl ?_
  refine GX.step (v' := .ptr 1 0) (heap' := [(0, .box (TClause.c x0)), (1, .box (TRoute.c t1))]) (next' := 2) rfl rfl rfl rfl rfl rfl rfl ?_
  refine GX.pure (v' := .bool false) rfl rfl rfl rfl rfl ?_
  refine GX.done ?_
  refine WK.seq ?_
  refine WK.regx mixed ?_
  refine GX.pure (v' := .bool true) rfl rfl rfl rfl rfl ?_
  refine GX.done ?_
  refine WK.seq ?_
  refine WK.seq ?_
  refine WK.regx mixed ?_
  refine GX.pure (v' := .ptr 0 2) rfl rfl rfl rfl rfl ?_
  refine GX.pure (v' := .ro 6 (x0.Listf.map TRule.c)) rfl rfl rfl rfl rfl ?_
  refine GX.pure (v' := .int .i64 (x0.Listf.length : Int)) rfl rfl rfl rfl (len_map _ _) ?_
  refine GX.pure (v' := .bool (decide (0 < (x0.Listf.length : Int)))) rfl rfl rfl rfl rfl ?_
  refine GX.done ?_
  rcases bool_two (decide (0 < (x0.Listf.length : Int))) with hb1 | hb1
  · rw [hb1]; try simp only [hb1, cond_true, cond_false, Bool.true_and, Bool.false_and, Bool.true_or, Bool.false_or, Bool.not_true, Bool.not_false] at hR
    refine WK.condF rfl ?_
    refine WK.skip ?_
    refine WK.seq ?_
    refine WK.regx mixed ?_
    refine GX.pure (v' := .ptr 0 3) rfl rfl rfl rfl rfl ?_
    refine GX.pure (v' := .int .i64 x0.MKind) rfl rfl rfl rfl rfl ?_
    refine GX.pure (v' := .bool (decide (x0.MKind = (-1)))) rfl rfl rfl rfl rfl ?_
    refine GX.pure (v' := .bool (decide (x0.MKind = (-1)))) rfl rfl rfl rfl rfl ?_
    rcases bool_two (decide (x0.MKind = (-1))) with hb2 | hb2
    · rw [hb2]; try simp only [hb2, cond_true, cond_false, Bool.true_and, Bool.false_and, Bool.true_or, Bool.false_or, Bool.not_true, Bool.not_false] at hR
      refine GX.pure (v' := .ptr 0 3) rfl rfl rfl rfl rfl ?_
      refine GX.pure (v' := .int .i64 x0.MKind) rfl rfl rfl rfl rfl ?_
      refine GX.pure (v' := .ptr 1 2) rfl rfl rfl rfl rfl ?_
      refine GX.pure (v' := .int .i64 t1.Kind) rfl rfl rfl rfl rfl ?_
      refine GX.pure (v' := .bool (decide (x0.MKind = t1.Kind))) rfl rfl rfl rfl rfl ?_
      refine GX.pure (v' := .bool (decide (x0.MKind = t1.Kind))) rfl rfl rfl rfl rfl ?_
      refine GX.pure (v' := .bool (decide (x0.MKind = t1.Kind))) rfl rfl rfl rfl rfl ?_
      refine GX.done ?_
      refine WK.seq ?_
      refine WK.regx mixed ?_
      refine GX.pure (v' := .ptr 0 6) rfl rfl rfl rfl rfl ?_
      refine GX.pure (v' := .ro 1 (x0.MTags.map c_u32)) rfl rfl rfl rfl rfl ?_
      refine GX.pure (v' := .int .i64 (x0.MTags.length : Int)) rfl rfl rfl rfl (len_map _ _) ?_
      refine GX.pure (v' := .bool (decide ((x0.MTags.length : Int) = 0))) rfl rfl rfl rfl rfl ?_
      refine GX.pure (v' := .bool (decide ((x0.MTags.length : Int) = 0))) rfl rfl rfl rfl rfl ?_
      rcases bool_two (decide ((x0.MTags.length : Int) = 0)) with hb3 | hb3
      · rw [hb3]; try simp only [hb3, cond_true, cond_false, Bool.true_and, Bool.false_and, Bool.true_or, Bool.false_or, Bool.not_true, Bool.not_false] at hR
        refine GX.pure (v' := .ptr 0 6) rfl rfl rfl rfl rfl ?_
        refine GX.pure (v' := .ro 1 (x0.MTags.map c_u32)) rfl rfl rfl rfl rfl ?_
        refine GX.pure (v' := .ptr 1 4) rfl rfl rfl rfl rfl ?_
        refine GX.pure (v' := .int .u32 t1.Tag) rfl rfl rfl rfl rfl ?_
        generalize hc39 : F39_slices_Contains x0.MTags t1.Tag = c39 at hR
        try dsimp only at hR
        refine GX.callp (r := .bool c39) rfl rfl rfl (f39_ok x0.MTags t1.Tag _ hc39) rfl rfl ?_
        refine GX.pure (v' := .bool c39) rfl rfl rfl rfl rfl ?_
        refine GX.pure (v' := .bool c39) rfl rfl rfl rfl rfl ?_
        refine GX.done ?_
        refine WK.seq ?_
        refine WK.regx mixed ?_
        refine GX.pure (v' := .bool true) rfl rfl rfl rfl rfl ?_
        refine GX.pure (v' := .bool true) rfl rfl rfl rfl rfl ?_
        refine GX.pure (v' := .bool (decide (x0.MKind = t1.Kind))) rfl rfl rfl rfl rfl ?_
        refine GX.pure (v' := .bool (decide (x0.MKind = t1.Kind))) rfl rfl rfl rfl rfl ?_
        refine GX.pure (v' := .bool (decide (x0.MKind = t1.Kind))) rfl rfl rfl rfl rfl ?_
        rcases bool_two (decide (x0.MKind = t1.Kind)) with hb4 | hb4
        · rw [hb4]; try simp only [hb4, cond_true, cond_false, Bool.true_and, Bool.false_and, Bool.true_or, Bool.false_or, Bool.not_true, Bool.not_false] at hR
          refine GX.skip rfl rfl ?_
          refine GX.pure (v' := .bool false) rfl rfl rfl rfl rfl ?_
          refine GX.pure (v' := .bool false) rfl rfl rfl rfl rfl ?_
          refine GX.skip rfl rfl ?_
          refine GX.skip rfl rfl ?_
          refine GX.skip rfl rfl ?_
          refine GX.skip rfl rfl ?_
          refine GX.skip rfl rfl ?_
          refine GX.skip rfl rfl ?_
          refine GX.skip rfl rfl ?_
          refine GX.pure (v' := .bool false) rfl rfl rfl rfl rfl ?_
          refine GX.pure (v' := .bool false) rfl rfl rfl rfl rfl ?_
          refine GX.done ?_
          refine WK.ret ?_
          subst hR
          exact RetQ.fr [] (.inr rfl) rfl rfl rfl rfl
        · rw [hb4]; try simp only [hb4, cond_true, cond_false, Bool.true_and, Bool.false_and, Bool.true_or, Bool.false_or, Bool.not_true, Bool.not_false] at hR
          refine GX.pure (v' := .bool c39) rfl rfl rfl rfl rfl ?_
          refine GX.pure (v' := .bool c39) rfl rfl rfl rfl rfl ?_
          refine GX.pure (v' := .bool c39) rfl rfl rfl rfl rfl ?_
          rcases bool_two (c39) with hb5 | hb5
          · rw [hb5]; try simp only [hb5, cond_true, cond_false, Bool.true_and, Bool.false_and, Bool.true_or, Bool.false_or, Bool.not_true, Bool.not_false] at hR
            refine GX.skip rfl rfl ?_
            refine GX.skip rfl rfl ?_
            refine GX.skip rfl rfl ?_
            refine GX.skip rfl rfl ?_
            refine GX.skip rfl rfl ?_
            refine GX.skip rfl rfl ?_
            refine GX.skip rfl rfl ?_
            refine GX.pure (v' := .bool false) rfl rfl rfl rfl rfl ?_
            refine GX.pure (v' := .bool false) rfl rfl rfl rfl rfl ?_
            refine GX.done ?_
            refine WK.ret ?_
            subst hR
            exact RetQ.fr [] (.inr rfl) rfl rfl rfl rfl
          · rw [hb5]; try simp only [hb5, cond_true, cond_false, Bool.true_and, Bool.false_and, Bool.true_or, Bool.false_or, Bool.not_true, Bool.not_false] at hR
            refine GX.pure (v' := .ptr 1 3) rfl rfl rfl rfl rfl ?_
            refine GX.pure (v' := .int .i64 t1.Cost) rfl rfl rfl rfl rfl ?_
            refine GX.pure (v' := .ptr 0 4) rfl rfl rfl rfl rfl ?_
            refine GX.pure (v' := .int .i64 x0.MLow) rfl rfl rfl rfl rfl ?_
            refine GX.pure (v' := .ptr 0 5) rfl rfl rfl rfl rfl ?_
            refine GX.pure (v' := .int .i64 x0.MHigh) rfl rfl rfl rfl rfl ?_
            generalize hc55 : F34_rmap_isIn t1.Cost x0.MLow x0.MHigh = c55 at hR
            try dsimp only at hR
            refine GX.callp (r := .bool c55) rfl rfl rfl (f34_ok t1.Cost x0.MLow x0.MHigh _ hc55) rfl rfl ?_
            refine GX.pure (v' := .bool c55) rfl rfl rfl rfl rfl ?_
            refine GX.pure (v' := .bool c55) rfl rfl rfl rfl rfl ?_
            refine GX.done ?_
            refine WK.ret ?_
            subst hR
            exact RetQ.fr [] (.inr rfl) rfl rfl rfl rfl
      · rw [hb3]; try simp only [hb3, cond_true, cond_false, Bool.true_and, Bool.false_and, Bool.true_or, Bool.false_or, Bool.not_true, Bool.not_false] at hR
        refine GX.skip rfl rfl ?_
        refine GX.skip rfl rfl ?_
        refine GX.skip rfl rfl ?_
        refine GX.skip rfl rfl ?_
        refine GX.skip rfl rfl ?_
        refine GX.pure (v' := .bool true) rfl rfl rfl rfl rfl ?_
        refine GX.pure (v' := .bool true) rfl rfl rfl rfl rfl ?_
        refine GX.done ?_
        refine WK.seq ?_
        refine WK.regx mixed ?_
        refine GX.pure (v' := .bool true) rfl rfl rfl rfl rfl ?_
        refine GX.pure (v' := .bool true) rfl rfl rfl rfl rfl ?_
        refine GX.pure (v' := .bool (decide (x0.MKind = t1.Kind))) rfl rfl rfl rfl rfl ?_
        refine GX.pure (v' := .bool (decide (x0.MKind = t1.Kind))) rfl rfl rfl rfl rfl ?_
        refine GX.pure (v' := .bool (decide (x0.MKind = t1.Kind))) rfl rfl rfl rfl rfl ?_
        rcases bool_two (decide (x0.MKind = t1.Kind)) with hb6 | hb6
        · rw [hb6]; try simp only [hb6, cond_true, cond_false, Bool.true_and, Bool.false_and, Bool.true_or, Bool.false_or, Bool.not_true, Bool.not_false] at hR
          refine GX.skip rfl rfl ?_
          refine GX.pure (v' := .bool false) rfl rfl rfl rfl rfl ?_
          refine GX.pure (v' := .bool false) rfl rfl rfl rfl rfl ?_
          refine GX.skip rfl rfl ?_
          refine GX.skip rfl rfl ?_
          refine GX.skip rfl rfl ?_
          refine GX.skip rfl rfl ?_
          refine GX.skip rfl rfl ?_
          refine GX.skip rfl rfl ?_
          refine GX.skip rfl rfl ?_
          refine GX.pure (v' := .bool false) rfl rfl rfl rfl rfl ?_
          refine GX.pure (v' := .bool false) rfl rfl rfl rfl rfl ?_
          refine GX.done ?_
          refine WK.ret ?_
          subst hR
          exact RetQ.fr [] (.inr rfl) rfl rfl rfl rfl
        · rw [hb6]; try simp only [hb6, cond_true, cond_false, Bool.true_and, Bool.false_and, Bool.true_or, Bool.false_or, Bool.not_true, Bool.not_false] at hR
          refine GX.pure (v' := .bool true) rfl rfl rfl rfl rfl ?_
          refine GX.pure (v' := .bool true) rfl rfl rfl rfl rfl ?_
          refine GX.pure (v' := .bool true) rfl rfl rfl rfl rfl ?_
          refine GX.pure (v' := .ptr 1 3) rfl rfl rfl rfl rfl ?_
          refine GX.pure (v' := .int .i64 t1.Cost) rfl rfl rfl rfl rfl ?_
          refine GX.pure (v' := .ptr 0 4) rfl rfl rfl rfl rfl ?_
          refine GX.pure (v' := .int .i64 x0.MLow) rfl rfl rfl rfl rfl ?_
          refine GX.pure (v' := .ptr 0 5) rfl rfl rfl rfl rfl ?_
          refine GX.pure (v' := .int .i64 x0.MHigh) rfl rfl rfl rfl rfl ?_
          generalize hc55 : F34_rmap_isIn t1.Cost x0.MLow x0.MHigh = c55 at hR
          try dsimp only at hR
          refine GX.callp (r := .bool c55) rfl rfl rfl (f34_ok t1.Cost x0.MLow x0.MHigh _ hc55) rfl rfl ?_
          refine GX.pure (v' := .bool c55) rfl rfl rfl rfl rfl ?_
          refine GX.pure (v' := .bool c55) rfl rfl rfl rfl rfl ?_
          refine GX.done ?_
          refine WK.ret ?_
          subst hR
          exact RetQ.fr [] (.inr rfl) rfl rfl rfl rfl
    · rw [hb2]; try simp only [hb2, cond_true, cond_false, Bool.true_and, Bool.false_and, Bool.true_or, Bool.false_or, Bool.not_true, Bool.not_false] at hR
      refine GX.skip rfl rfl ?_
      refine GX.skip rfl rfl ?_
      refine GX.skip rfl rfl ?_
      refine GX.skip rfl rfl ?_
      refine GX.skip rfl rfl ?_
      refine GX.pure (v' := .bool true) rfl rfl rfl rfl rfl ?_
      refine GX.pure (v' := .bool true) rfl rfl rfl rfl rfl ?_
      refine GX.done ?_
      refine WK.seq ?_
      refine WK.regx mixed ?_
      refine GX.pure (v' := .ptr 0 6) rfl rfl rfl rfl rfl ?_
      refine GX.pure (v' := .ro 1 (x0.MTags.map c_u32)) rfl rfl rfl rfl rfl ?_
      refine GX.pure (v' := .int .i64 (x0.MTags.length : Int)) rfl rfl rfl rfl (len_map _ _) ?_
      refine GX.pure (v' := .bool (decide ((x0.MTags.length : Int) = 0))) rfl rfl rfl rfl rfl ?_
      refine GX.pure (v' := .bool (decide ((x0.MTags.length : Int) = 0))) rfl rfl rfl rfl rfl ?_
      rcases bool_two (decide ((x0.MTags.length : Int) = 0)) with hb7 | hb7
      · rw [hb7]; try simp only [hb7, cond_true, cond_false, Bool.true_and, Bool.false_and, Bool.true_or, Bool.false_or, Bool.not_true, Bool.not_false] at hR
        refine GX.pure (v' := .ptr 0 6) rfl rfl rfl rfl rfl ?_
        refine GX.pure (v' := .ro 1 (x0.MTags.map c_u32)) rfl rfl rfl rfl rfl ?_
        refine GX.pure (v' := .ptr 1 4) rfl rfl rfl rfl rfl ?_
        refine GX.pure (v' := .int .u32 t1.Tag) rfl rfl rfl rfl rfl ?_
        generalize hc39 : F39_slices_Contains x0.MTags t1.Tag = c39 at hR
        try dsimp only at hR
        refine GX.callp (r := .bool c39) rfl rfl rfl (f39_ok x0.MTags t1.Tag _ hc39) rfl rfl ?_
        refine GX.pure (v' := .bool c39) rfl rfl rfl rfl rfl ?_
        refine GX.pure (v' := .bool c39) rfl rfl rfl rfl rfl ?_
        refine GX.done ?_
        refine WK.seq ?_
        refine WK.regx mixed ?_
        refine GX.pure (v' := .bool true) rfl rfl rfl rfl rfl ?_
        refine GX.pure (v' := .bool true) rfl rfl rfl rfl rfl ?_
        refine GX.pure (v' := .bool true) rfl rfl rfl rfl rfl ?_
        refine GX.pure (v' := .bool true) rfl rfl rfl rfl rfl ?_
        refine GX.pure (v' := .bool true) rfl rfl rfl rfl rfl ?_
        refine GX.pure (v' := .bool c39) rfl rfl rfl rfl rfl ?_
        refine GX.pure (v' := .bool c39) rfl rfl rfl rfl rfl ?_
        refine GX.pure (v' := .bool c39) rfl rfl rfl rfl rfl ?_
        rcases bool_two (c39) with hb8 | hb8
        · rw [hb8]; try simp only [hb8, cond_true, cond_false, Bool.true_and, Bool.false_and, Bool.true_or, Bool.false_or, Bool.not_true, Bool.not_false] at hR
          refine GX.skip rfl rfl ?_
          refine GX.skip rfl rfl ?_
          refine GX.skip rfl rfl ?_
          refine GX.skip rfl rfl ?_
          refine GX.skip rfl rfl ?_
          refine GX.skip rfl rfl ?_
          refine GX.skip rfl rfl ?_
          refine GX.pure (v' := .bool false) rfl rfl rfl rfl rfl ?_
          refine GX.pure (v' := .bool false) rfl rfl rfl rfl rfl ?_
          refine GX.done ?_
          refine WK.ret ?_
          subst hR
          exact RetQ.fr [] (.inr rfl) rfl rfl rfl rfl
        · rw [hb8]; try simp only [hb8, cond_true, cond_false, Bool.true_and, Bool.false_and, Bool.true_or, Bool.false_or, Bool.not_true, Bool.not_false] at hR
          refine GX.pure (v' := .ptr 1 3) rfl rfl rfl rfl rfl ?_
          refine GX.pure (v' := .int .i64 t1.Cost) rfl rfl rfl rfl rfl ?_
          refine GX.pure (v' := .ptr 0 4) rfl rfl rfl rfl rfl ?_
          refine GX.pure (v' := .int .i64 x0.MLow) rfl rfl rfl rfl rfl ?_
          refine GX.pure (v' := .ptr 0 5) rfl rfl rfl rfl rfl ?_
          refine GX.pure (v' := .int .i64 x0.MHigh) rfl rfl rfl rfl rfl ?_
          generalize hc55 : F34_rmap_isIn t1.Cost x0.MLow x0.MHigh = c55 at hR
          try dsimp only at hR
          refine GX.callp (r := .bool c55) rfl rfl rfl (f34_ok t1.Cost x0.MLow x0.MHigh _ hc55) rfl rfl ?_
          refine GX.pure (v' := .bool c55) rfl rfl rfl rfl rfl ?_
          refine GX.pure (v' := .bool c55) rfl rfl rfl rfl rfl ?_
          refine GX.done ?_
          refine WK.ret ?_
          subst hR
          exact RetQ.fr [] (.inr rfl) rfl rfl rfl rfl
      · rw [hb7]; try simp only [hb7, cond_true, cond_false, Bool.true_and, Bool.false_and, Bool.true_or, Bool.false_or, Bool.not_true, Bool.not_false] at hR
        refine GX.skip rfl rfl ?_
        refine GX.skip rfl rfl ?_
        refine GX.skip rfl rfl ?_
        refine GX.skip rfl rfl ?_
        refine GX.skip rfl rfl ?_
        refine GX.pure (v' := .bool true) rfl rfl rfl rfl rfl ?_
        refine GX.pure (v' := .bool true) rfl rfl rfl rfl rfl ?_
        refine GX.done ?_
        refine WK.seq ?_
        refine WK.regx mixed ?_
        refine GX.pure (v' := .bool true) rfl rfl rfl rfl rfl ?_
        refine GX.pure (v' := .bool true) rfl rfl rfl rfl rfl ?_
        refine GX.pure (v' := .bool true) rfl rfl rfl rfl rfl ?_
        refine GX.pure (v' := .bool true) rfl rfl rfl rfl rfl ?_
        refine GX.pure (v' := .bool true) rfl rfl rfl rfl rfl ?_
        refine GX.pure (v' := .bool true) rfl rfl rfl rfl rfl ?_
        refine GX.pure (v' := .bool true) rfl rfl rfl rfl rfl ?_
        refine GX.pure (v' := .bool true) rfl rfl rfl rfl rfl ?_
        refine GX.pure (v' := .ptr 1 3) rfl rfl rfl rfl rfl ?_
        refine GX.pure (v' := .int .i64 t1.Cost) rfl rfl rfl rfl rfl ?_
        refine GX.pure (v' := .ptr 0 4) rfl rfl rfl rfl rfl ?_
        refine GX.pure (v' := .int .i64 x0.MLow) rfl rfl rfl rfl rfl ?_
        refine GX.pure (v' := .ptr 0 5) rfl rfl rfl rfl rfl ?_
        refine GX.pure (v' := .int .i64 x0.MHigh) rfl rfl rfl rfl rfl ?_
        generalize hc55 : F34_rmap_isIn t1.Cost x0.MLow x0.MHigh = c55 at hR
        try dsimp only at hR
        refine GX.callp (r := .bool c55) rfl rfl rfl (f34_ok t1.Cost x0.MLow x0.MHigh _ hc55) rfl rfl ?_
        refine GX.pure (v' := .bool c55) rfl rfl rfl rfl rfl ?_
        refine GX.pure (v' := .bool c55) rfl rfl rfl rfl rfl ?_
        refine GX.done ?_
        refine WK.ret ?_
        subst hR
        exact RetQ.fr [] (.inr rfl) rfl rfl rfl rfl
  · rw [hb1]; try simp only [hb1, cond_true, cond_false, Bool.true_and, Bool.false_and, Bool.true_or, Bool.false_or, Bool.not_true, Bool.not_false] at hR
    refine WK.condT rfl ?_
    refine WK.regx mixed ?_
    refine GX.pure (v' := .ptr 0 2) rfl rfl rfl rfl rfl ?_
    refine GX.pure (v' := .ro 6 (x0.Listf.map TRule.c)) rfl rfl rfl rfl rfl ?_
    refine GX.pure (v' := .ptr 1 0) rfl rfl rfl rfl rfl ?_
    refine GX.pure (v' := .agg [.int .u32 t1.P.A, .int .i64 t1.P.N]) rfl rfl rfl rfl rfl ?_
    generalize hc17 : F38_plist_Eval x0.Listf t1.P = c17 at hR
    obtain ⟨c17a, c17b⟩ := c17; try dsimp only at hR
    refine GX.callp (r := .tup [.bool c17a, .int .i64 c17b]) rfl rfl rfl (f38_ok x0.Listf t1.P _ hc17) rfl rfl ?_
    refine GX.pure (v' := .tup [.bool c17a, .int .i64 c17b]) rfl rfl rfl rfl rfl ?_
    refine GX.pure (v' := .bool c17a) rfl rfl rfl rfl rfl ?_
    refine GX.pure (v' := .int .i64 c17b) rfl rfl rfl rfl rfl ?_
    refine GX.pure (v' := .bool c17a) rfl rfl rfl rfl rfl ?_
    refine GX.done ?_
    refine WK.seq ?_
    refine WK.regx mixed ?_
    refine GX.pure (v' := .ptr 0 3) rfl rfl rfl rfl rfl ?_
    refine GX.pure (v' := .int .i64 x0.MKind) rfl rfl rfl rfl rfl ?_
    refine GX.pure (v' := .bool (decide (x0.MKind = (-1)))) rfl rfl rfl rfl rfl ?_
    refine GX.pure (v' := .bool (decide (x0.MKind = (-1)))) rfl rfl rfl rfl rfl ?_
    rcases bool_two (decide (x0.MKind = (-1))) with hb9 | hb9
    · rw [hb9]; try simp only [hb9, cond_true, cond_false, Bool.true_and, Bool.false_and, Bool.true_or, Bool.false_or, Bool.not_true, Bool.not_false] at hR
      refine GX.pure (v' := .ptr 0 3) rfl rfl rfl rfl rfl ?_
      refine GX.pure (v' := .int .i64 x0.MKind) rfl rfl rfl rfl rfl ?_
      refine GX.pure (v' := .ptr 1 2) rfl rfl rfl rfl rfl ?_
      refine GX.pure (v' := .int .i64 t1.Kind) rfl rfl rfl rfl rfl ?_
      refine GX.pure (v' := .bool (decide (x0.MKind = t1.Kind))) rfl rfl rfl rfl rfl ?_
      refine GX.pure (v' := .bool (decide (x0.MKind = t1.Kind))) rfl rfl rfl rfl rfl ?_
      refine GX.pure (v' := .bool (decide (x0.MKind = t1.Kind))) rfl rfl rfl rfl rfl ?_
      refine GX.done ?_
      refine WK.seq ?_
      refine WK.regx mixed ?_
      refine GX.pure (v' := .ptr 0 6) rfl rfl rfl rfl rfl ?_
      refine GX.pure (v' := .ro 1 (x0.MTags.map c_u32)) rfl rfl rfl rfl rfl ?_
      refine GX.pure (v' := .int .i64 (x0.MTags.length : Int)) rfl rfl rfl rfl (len_map _ _) ?_
      refine GX.pure (v' := .bool (decide ((x0.MTags.length : Int) = 0))) rfl rfl rfl rfl rfl ?_
      refine GX.pure (v' := .bool (decide ((x0.MTags.length : Int) = 0))) rfl rfl rfl rfl rfl ?_
      rcases bool_two (decide ((x0.MTags.length : Int) = 0)) with hb10 | hb10
      · rw [hb10]; try simp only [hb10, cond_true, cond_false, Bool.true_and, Bool.false_and, Bool.true_or, Bool.false_or, Bool.not_true, Bool.not_false] at hR
        refine GX.pure (v' := .ptr 0 6) rfl rfl rfl rfl rfl ?_
        refine GX.pure (v' := .ro 1 (x0.MTags.map c_u32)) rfl rfl rfl rfl rfl ?_
        refine GX.pure (v' := .ptr 1 4) rfl rfl rfl rfl rfl ?_
        refine GX.pure (v' := .int .u32 t1.Tag) rfl rfl rfl rfl rfl ?_
        generalize hc39 : F39_slices_Contains x0.MTags t1.Tag = c39 at hR
        try dsimp only at hR
        refine GX.callp (r := .bool c39) rfl rfl rfl (f39_ok x0.MTags t1.Tag _ hc39) rfl rfl ?_
        refine GX.pure (v' := .bool c39) rfl rfl rfl rfl rfl ?_
        refine GX.pure (v' := .bool c39) rfl rfl rfl rfl rfl ?_
        refine GX.done ?_
        refine WK.seq ?_
        refine WK.regx mixed ?_
        refine GX.pure (v' := .bool c17a) rfl rfl rfl rfl rfl ?_
        refine GX.pure (v' := .bool c17a) rfl rfl rfl rfl rfl ?_
        rcases bool_two (c17a) with hb11 | hb11
        · rw [hb11]; try simp only [hb11, cond_true, cond_false, Bool.true_and, Bool.false_and, Bool.true_or, Bool.false_or, Bool.not_true, Bool.not_false] at hR
          refine GX.skip rfl rfl ?_
          refine GX.pure (v' := .bool false) rfl rfl rfl rfl rfl ?_
          refine GX.pure (v' := .bool false) rfl rfl rfl rfl rfl ?_
          refine GX.skip rfl rfl ?_
          refine GX.pure (v' := .bool false) rfl rfl rfl rfl rfl ?_
          refine GX.pure (v' := .bool false) rfl rfl rfl rfl rfl ?_
          refine GX.skip rfl rfl ?_
          refine GX.skip rfl rfl ?_
          refine GX.skip rfl rfl ?_
          refine GX.skip rfl rfl ?_
          refine GX.skip rfl rfl ?_
          refine GX.skip rfl rfl ?_
          refine GX.skip rfl rfl ?_
          refine GX.pure (v' := .bool false) rfl rfl rfl rfl rfl ?_
          refine GX.pure (v' := .bool false) rfl rfl rfl rfl rfl ?_
          refine GX.done ?_
          refine WK.ret ?_
          subst hR
          exact RetQ.fr [] (.inr rfl) rfl rfl rfl rfl
        · rw [hb11]; try simp only [hb11, cond_true, cond_false, Bool.true_and, Bool.false_and, Bool.true_or, Bool.false_or, Bool.not_true, Bool.not_false] at hR
          refine GX.pure (v' := .bool (decide (x0.MKind = t1.Kind))) rfl rfl rfl rfl rfl ?_
          refine GX.pure (v' := .bool (decide (x0.MKind = t1.Kind))) rfl rfl rfl rfl rfl ?_
          refine GX.pure (v' := .bool (decide (x0.MKind = t1.Kind))) rfl rfl rfl rfl rfl ?_
          rcases bool_two (decide (x0.MKind = t1.Kind)) with hb12 | hb12
          · rw [hb12]; try simp only [hb12, cond_true, cond_false, Bool.true_and, Bool.false_and, Bool.true_or, Bool.false_or, Bool.not_true, Bool.not_false] at hR
            refine GX.skip rfl rfl ?_
            refine GX.pure (v' := .bool false) rfl rfl rfl rfl rfl ?_
            refine GX.pure (v' := .bool false) rfl rfl rfl rfl rfl ?_
            refine GX.skip rfl rfl ?_
            refine GX.skip rfl rfl ?_
            refine GX.skip rfl rfl ?_
            refine GX.skip rfl rfl ?_
            refine GX.skip rfl rfl ?_
            refine GX.skip rfl rfl ?_
            refine GX.skip rfl rfl ?_
            refine GX.pure (v' := .bool false) rfl rfl rfl rfl rfl ?_
            refine GX.pure (v' := .bool false) rfl rfl rfl rfl rfl ?_
            refine GX.done ?_
            refine WK.ret ?_
            subst hR
            exact RetQ.fr [] (.inr rfl) rfl rfl rfl rfl
          · rw [hb12]; try simp only [hb12, cond_true, cond_false, Bool.true_and, Bool.false_and, Bool.true_or, Bool.false_or, Bool.not_true, Bool.not_false] at hR
            refine GX.pure (v' := .bool c39) rfl rfl rfl rfl rfl ?_
            refine GX.pure (v' := .bool c39) rfl rfl rfl rfl rfl ?_
            refine GX.pure (v' := .bool c39) rfl rfl rfl rfl rfl ?_
            rcases bool_two (c39) with hb13 | hb13
            · rw [hb13]; try simp only [hb13, cond_true, cond_false, Bool.true_and, Bool.false_and, Bool.true_or, Bool.false_or, Bool.not_true, Bool.not_false] at hR
              refine GX.skip rfl rfl ?_
              refine GX.skip rfl rfl ?_
              refine GX.skip rfl rfl ?_
              refine GX.skip rfl rfl ?_
              refine GX.skip rfl rfl ?_
              refine GX.skip rfl rfl ?_
              refine GX.skip rfl rfl ?_
              refine GX.pure (v' := .bool false) rfl rfl rfl rfl rfl ?_
              refine GX.pure (v' := .bool false) rfl rfl rfl rfl rfl ?_
              refine GX.done ?_
              refine WK.ret ?_
              subst hR
              exact RetQ.fr [] (.inr rfl) rfl rfl rfl rfl
            · rw [hb13]; try simp only [hb13, cond_true, cond_false, Bool.true_and, Bool.false_and, Bool.true_or, Bool.false_or, Bool.not_true, Bool.not_false] at hR
              refine GX.pure (v' := .ptr 1 3) rfl rfl rfl rfl rfl ?_
              refine GX.pure (v' := .int .i64 t1.Cost) rfl rfl rfl rfl rfl ?_
              refine GX.pure (v' := .ptr 0 4) rfl rfl rfl rfl rfl ?_
              refine GX.pure (v' := .int .i64 x0.MLow) rfl rfl rfl rfl rfl ?_
              refine GX.pure (v' := .ptr 0 5) rfl rfl rfl rfl rfl ?_
              refine GX.pure (v' := .int .i64 x0.MHigh) rfl rfl rfl rfl rfl ?_
              generalize hc55 : F34_rmap_isIn t1.Cost x0.MLow x0.MHigh = c55 at hR
              try dsimp only at hR
              refine GX.callp (r := .bool c55) rfl rfl rfl (f34_ok t1.Cost x0.MLow x0.MHigh _ hc55) rfl rfl ?_
              refine GX.pure (v' := .bool c55) rfl rfl rfl rfl rfl ?_
              refine GX.pure (v' := .bool c55) rfl rfl rfl rfl rfl ?_
              refine GX.done ?_
              refine WK.ret ?_
              subst hR
              exact RetQ.fr [] (.inr rfl) rfl rfl rfl rfl
      · rw [hb10]; try simp only [hb10, cond_true, cond_false, Bool.true_and, Bool.false_and, Bool.true_or, Bool.false_or, Bool.not_true, Bool.not_false] at hR
        refine GX.skip rfl rfl ?_
        refine GX.skip rfl rfl ?_
        refine GX.skip rfl rfl ?_
        refine GX.skip rfl rfl ?_
        refine GX.skip rfl rfl ?_
        refine GX.pure (v' := .bool true) rfl rfl rfl rfl rfl ?_
        refine GX.pure (v' := .bool true) rfl rfl rfl rfl rfl ?_
        refine GX.done ?_
        refine WK.seq ?_
        refine WK.regx mixed ?_
        refine GX.pure (v' := .bool c17a) rfl rfl rfl rfl rfl ?_
        refine GX.pure (v' := .bool c17a) rfl rfl rfl rfl rfl ?_
        rcases bool_two (c17a) with hb14 | hb14
        · rw [hb14]; try simp only [hb14, cond_true, cond_false, Bool.true_and, Bool.false_and, Bool.true_or, Bool.false_or, Bool.not_true, Bool.not_false] at hR
          refine GX.skip rfl rfl ?_
          refine GX.pure (v' := .bool false) rfl rfl rfl rfl rfl ?_
          refine GX.pure (v' := .bool false) rfl rfl rfl rfl rfl ?_
          refine GX.skip rfl rfl ?_
          refine GX.pure (v' := .bool false) rfl rfl rfl rfl rfl ?_
          refine GX.pure (v' := .bool false) rfl rfl rfl rfl rfl ?_
          refine GX.skip rfl rfl ?_
          refine GX.skip rfl rfl ?_
          refine GX.skip rfl rfl ?_
          refine GX.skip rfl rfl ?_
          refine GX.skip rfl rfl ?_
          refine GX.skip rfl rfl ?_
          refine GX.skip rfl rfl ?_
          refine GX.pure (v' := .bool false) rfl rfl rfl rfl rfl ?_
          refine GX.pure (v' := .bool false) rfl rfl rfl rfl rfl ?_
          refine GX.done ?_
          refine WK.ret ?_
          subst hR
          exact RetQ.fr [] (.inr rfl) rfl rfl rfl rfl
        · rw [hb14]; try simp only [hb14, cond_true, cond_false, Bool.true_and, Bool.false_and, Bool.true_or, Bool.false_or, Bool.not_true, Bool.not_false] at hR
          refine GX.pure (v' := .bool (decide (x0.MKind = t1.Kind))) rfl rfl rfl rfl rfl ?_
          refine GX.pure (v' := .bool (decide (x0.MKind = t1.Kind))) rfl rfl rfl rfl rfl ?_
          refine GX.pure (v' := .bool (decide (x0.MKind = t1.Kind))) rfl rfl rfl rfl rfl ?_
          rcases bool_two (decide (x0.MKind = t1.Kind)) with hb15 | hb15
          · rw [hb15]; try simp only [hb15, cond_true, cond_false, Bool.true_and, Bool.false_and, Bool.true_or, Bool.false_or, Bool.not_true, Bool.not_false] at hR
            refine GX.skip rfl rfl ?_
            refine GX.pure (v' := .bool false) rfl rfl rfl rfl rfl ?_
            refine GX.pure (v' := .bool false) rfl rfl rfl rfl rfl ?_
            refine GX.skip rfl rfl ?_
            refine GX.skip rfl rfl ?_
            refine GX.skip rfl rfl ?_
            refine GX.skip rfl rfl ?_
            refine GX.skip rfl rfl ?_
            refine GX.skip rfl rfl ?_
            refine GX.skip rfl rfl ?_
            refine GX.pure (v' := .bool false) rfl rfl rfl rfl rfl ?_
            refine GX.pure (v' := .bool false) rfl rfl rfl rfl rfl ?_
            refine GX.done ?_
            refine WK.ret ?_
            subst hR
            exact RetQ.fr [] (.inr rfl) rfl rfl rfl rfl
          · rw [hb15]; try simp only [hb15, cond_true, cond_false, Bool.true_and, Bool.false_and, Bool.true_or, Bool.false_or, Bool.not_true, Bool.not_false] at hR
            refine GX.pure (v' := .bool true) rfl rfl rfl rfl rfl ?_
            refine GX.pure (v' := .bool true) rfl rfl rfl rfl rfl ?_
            refine GX.pure (v' := .bool true) rfl rfl rfl rfl rfl ?_
            refine GX.pure (v' := .ptr 1 3) rfl rfl rfl rfl rfl ?_
            refine GX.pure (v' := .int .i64 t1.Cost) rfl rfl rfl rfl rfl ?_
            refine GX.pure (v' := .ptr 0 4) rfl rfl rfl rfl rfl ?_
            refine GX.pure (v' := .int .i64 x0.MLow) rfl rfl rfl rfl rfl ?_
            refine GX.pure (v' := .ptr 0 5) rfl rfl rfl rfl rfl ?_
            refine GX.pure (v' := .int .i64 x0.MHigh) rfl rfl rfl rfl rfl ?_
            generalize hc55 : F34_rmap_isIn t1.Cost x0.MLow x0.MHigh = c55 at hR
            try dsimp only at hR
            refine GX.callp (r := .bool c55) rfl rfl rfl (f34_ok t1.Cost x0.MLow x0.MHigh _ hc55) rfl rfl ?_
            refine GX.pure (v' := .bool c55) rfl rfl rfl rfl rfl ?_
            refine GX.pure (v' := .bool c55) rfl rfl rfl rfl rfl ?_
            refine GX.done ?_
            refine WK.ret ?_
            subst hR
            exact RetQ.fr [] (.inr rfl) rfl rfl rfl rfl
    · rw [hb9]; try simp only [hb9, cond_true, cond_false, Bool.true_and, Bool.false_and, Bool.true_or, Bool.false_or, Bool.not_true, Bool.not_false] at hR
      refine GX.skip rfl rfl ?_
      refine GX.skip rfl rfl ?_
      refine GX.skip rfl rfl ?_
      refine GX.skip rfl rfl ?_
      refine GX.skip rfl rfl ?_
      refine GX.pure (v' := .bool true) rfl rfl rfl rfl rfl ?_
      refine GX.pure (v' := .bool true) rfl rfl rfl rfl rfl ?_
      refine GX.done ?_
      refine WK.seq ?_
      refine WK.regx mixed ?_
      refine GX.pure (v' := .ptr 0 6) rfl rfl rfl rfl rfl ?_
      refine GX.pure (v' := .ro 1 (x0.MTags.map c_u32)) rfl rfl rfl rfl rfl ?_
      refine GX.pure (v' := .int .i64 (x0.MTags.length : Int)) rfl rfl rfl rfl (len_map _ _) ?_
      refine GX.pure (v' := .bool (decide ((x0.MTags.length : Int) = 0))) rfl rfl rfl rfl rfl ?_
      refine GX.pure (v' := .bool (decide ((x0.MTags.length : Int) = 0))) rfl rfl rfl rfl rfl ?_
      rcases bool_two (decide ((x0.MTags.length : Int) = 0)) with hb16 | hb16
      · rw [hb16]; try simp only [hb16, cond_true, cond_false, Bool.true_and, Bool.false_and, Bool.true_or, Bool.false_or, Bool.not_true, Bool.not_false] at hR
        refine GX.pure (v' := .ptr 0 6) rfl rfl rfl rfl rfl ?_
        refine GX.pure (v' := .ro 1 (x0.MTags.map c_u32)) rfl rfl rfl rfl rfl ?_
        refine GX.pure (v' := .ptr 1 4) rfl rfl rfl rfl rfl ?_
        refine GX.pure (v' := .int .u32 t1.Tag) rfl rfl rfl rfl rfl ?_
        generalize hc39 : F39_slices_Contains x0.MTags t1.Tag = c39 at hR
        try dsimp only at hR
        refine GX.callp (r := .bool c39) rfl rfl rfl (f39_ok x0.MTags t1.Tag _ hc39) rfl rfl ?_
        refine GX.pure (v' := .bool c39) rfl rfl rfl rfl rfl ?_
        refine GX.pure (v' := .bool c39) rfl rfl rfl rfl rfl ?_
        refine GX.done ?_
        refine WK.seq ?_
        refine WK.regx mixed ?_
        refine GX.pure (v' := .bool c17a) rfl rfl rfl rfl rfl ?_
        refine GX.pure (v' := .bool c17a) rfl rfl rfl rfl rfl ?_
        rcases bool_two (c17a) with hb17 | hb17
        · rw [hb17]; try simp only [hb17, cond_true, cond_false, Bool.true_and, Bool.false_and, Bool.true_or, Bool.false_or, Bool.not_true, Bool.not_false] at hR
          refine GX.skip rfl rfl ?_
          refine GX.pure (v' := .bool false) rfl rfl rfl rfl rfl ?_
          refine GX.pure (v' := .bool false) rfl rfl rfl rfl rfl ?_
          refine GX.skip rfl rfl ?_
          refine GX.pure (v' := .bool false) rfl rfl rfl rfl rfl ?_
          refine GX.pure (v' := .bool false) rfl rfl rfl rfl rfl ?_
          refine GX.skip rfl rfl ?_
          refine GX.skip rfl rfl ?_
          refine GX.skip rfl rfl ?_
          refine GX.skip rfl rfl ?_
          refine GX.skip rfl rfl ?_
          refine GX.skip rfl rfl ?_
          refine GX.skip rfl rfl ?_
          refine GX.pure (v' := .bool false) rfl rfl rfl rfl rfl ?_
          refine GX.pure (v' := .bool false) rfl rfl rfl rfl rfl ?_
          refine GX.done ?_
          refine WK.ret ?_
          subst hR
          exact RetQ.fr [] (.inr rfl) rfl rfl rfl rfl
        · rw [hb17]; try simp only [hb17, cond_true, cond_false, Bool.true_and, Bool.false_and, Bool.true_or, Bool.false_or, Bool.not_true, Bool.not_false] at hR
          refine GX.pure (v' := .bool true) rfl rfl rfl rfl rfl ?_
          refine GX.pure (v' := .bool true) rfl rfl rfl rfl rfl ?_
          refine GX.pure (v' := .bool true) rfl rfl rfl rfl rfl ?_
          refine GX.pure (v' := .bool c39) rfl rfl rfl rfl rfl ?_
          refine GX.pure (v' := .bool c39) rfl rfl rfl rfl rfl ?_
          refine GX.pure (v' := .bool c39) rfl rfl rfl rfl rfl ?_
          rcases bool_two (c39) with hb18 | hb18
          · rw [hb18]; try simp only [hb18, cond_true, cond_false, Bool.true_and, Bool.false_and, Bool.true_or, Bool.false_or, Bool.not_true, Bool.not_false] at hR
            refine GX.skip rfl rfl ?_
            refine GX.skip rfl rfl ?_
            refine GX.skip rfl rfl ?_
            refine GX.skip rfl rfl ?_
            refine GX.skip rfl rfl ?_
            refine GX.skip rfl rfl ?_
            refine GX.skip rfl rfl ?_
            refine GX.pure (v' := .bool false) rfl rfl rfl rfl rfl ?_
            refine GX.pure (v' := .bool false) rfl rfl rfl rfl rfl ?_
            refine GX.done ?_
            refine WK.ret ?_
            subst hR
            exact RetQ.fr [] (.inr rfl) rfl rfl rfl rfl
          · rw [hb18]; try simp only [hb18, cond_true, cond_false, Bool.true_and, Bool.false_and, Bool.true_or, Bool.false_or, Bool.not_true, Bool.not_false] at hR
            refine GX.pure (v' := .ptr 1 3) rfl rfl rfl rfl rfl ?_
            refine GX.pure (v' := .int .i64 t1.Cost) rfl rfl rfl rfl rfl ?_
            refine GX.pure (v' := .ptr 0 4) rfl rfl rfl rfl rfl ?_
            refine GX.pure (v' := .int .i64 x0.MLow) rfl rfl rfl rfl rfl ?_
            refine GX.pure (v' := .ptr 0 5) rfl rfl rfl rfl rfl ?_
            refine GX.pure (v' := .int .i64 x0.MHigh) rfl rfl rfl rfl rfl ?_
            generalize hc55 : F34_rmap_isIn t1.Cost x0.MLow x0.MHigh = c55 at hR
            try dsimp only at hR
            refine GX.callp (r := .bool c55) rfl rfl rfl (f34_ok t1.Cost x0.MLow x0.MHigh _ hc55) rfl rfl ?_
            refine GX.pure (v' := .bool c55) rfl rfl rfl rfl rfl ?_
            refine GX.pure (v' := .bool c55) rfl rfl rfl rfl rfl ?_
            refine GX.done ?_
            refine WK.ret ?_
            subst hR
            exact RetQ.fr [] (.inr rfl) rfl rfl rfl rfl
      · rw [hb16]; try simp only [hb16, cond_true, cond_false, Bool.true_and, Bool.false_and, Bool.true_or, Bool.false_or, Bool.not_true, Bool.not_false] at hR
        refine GX.skip rfl rfl ?_
        refine GX.skip rfl rfl ?_
        refine GX.skip rfl rfl ?_
        refine GX.skip rfl rfl ?_
        refine GX.skip rfl rfl ?_
        refine GX.pure (v' := .bool true) rfl rfl rfl rfl rfl ?_
        refine GX.pure (v' := .bool true) rfl rfl rfl rfl rfl ?_
        refine GX.done ?_
        refine WK.seq ?_
        refine WK.regx mixed ?_
        refine GX.pure (v' := .bool c17a) rfl rfl rfl rfl rfl ?_
        refine GX.pure (v' := .bool c17a) rfl rfl rfl rfl rfl ?_
        rcases bool_two (c17a) with hb19 | hb19
        · rw [hb19]; try simp only [hb19, cond_true, cond_false, Bool.true_and, Bool.false_and, Bool.true_or, Bool.false_or, Bool.not_true, Bool.not_false] at hR
          refine GX.skip rfl rfl ?_
          refine GX.pure (v' := .bool false) rfl rfl rfl rfl rfl ?_
          refine GX.pure (v' := .bool false) rfl rfl rfl rfl rfl ?_
          refine GX.skip rfl rfl ?_
          refine GX.pure (v' := .bool false) rfl rfl rfl rfl rfl ?_
          refine GX.pure (v' := .bool false) rfl rfl rfl rfl rfl ?_
          refine GX.skip rfl rfl ?_
          refine GX.skip rfl rfl ?_
          refine GX.skip rfl rfl ?_
          refine GX.skip rfl rfl ?_
          refine GX.skip rfl rfl ?_
          refine GX.skip rfl rfl ?_
          refine GX.skip rfl rfl ?_
          refine GX.pure (v' := .bool false) rfl rfl rfl rfl rfl ?_
          refine GX.pure (v' := .bool false) rfl rfl rfl rfl rfl ?_
          refine GX.done ?_
          refine WK.ret ?_
          subst hR
          exact RetQ.fr [] (.inr rfl) rfl rfl rfl rfl
        · rw [hb19]; try simp only [hb19, cond_true, cond_false, Bool.true_and, Bool.false_and, Bool.true_or, Bool.false_or, Bool.not_true, Bool.not_false] at hR
          refine GX.pure (v' := .bool true) rfl rfl rfl rfl rfl ?_
          refine GX.pure (v' := .bool true) rfl rfl rfl rfl rfl ?_
          refine GX.pure (v' := .bool true) rfl rfl rfl rfl rfl ?_
          refine GX.pure (v' := .bool true) rfl rfl rfl rfl rfl ?_
          refine GX.pure (v' := .bool true) rfl rfl rfl rfl rfl ?_
          refine GX.pure (v' := .bool true) rfl rfl rfl rfl rfl ?_
          refine GX.pure (v' := .ptr 1 3) rfl rfl rfl rfl rfl ?_
          refine GX.pure (v' := .int .i64 t1.Cost) rfl rfl rfl rfl rfl ?_
          refine GX.pure (v' := .ptr 0 4) rfl rfl rfl rfl rfl ?_
          refine GX.pure (v' := .int .i64 x0.MLow) rfl rfl rfl rfl rfl ?_
          refine GX.pure (v' := .ptr 0 5) rfl rfl rfl rfl rfl ?_
          refine GX.pure (v' := .int .i64 x0.MHigh) rfl rfl rfl rfl rfl ?_
          generalize hc55 : F34_rmap_isIn t1.Cost x0.MLow x0.MHigh = c55 at hR
          try dsimp only at hR
          refine GX.callp (r := .bool c55) rfl rfl rfl (f34_ok t1.Cost x0.MLow x0.MHigh _ hc55) rfl rfl ?_
          refine GX.pure (v' := .bool c55) rfl rfl rfl rfl rfl ?_
          refine GX.pure (v' := .bool c55) rfl rfl rfl rfl rfl ?_
          refine GX.done ?_
          refine WK.ret ?_
          subst hR
          exact RetQ.fr [] (.inr rfl) rfl rfl rfl rfl

theorem f29_ok (x0 : TClause) (a1 : TRoute) (R : Bool) (hR : F29_rmap_Eval_1 x0 a1 = R) : FnOk Try.prog 29 [.agg (TClause.c x0), .rptr (TRoute.c a1)] [] 0 (.bool R) [] 0 := by
  refine FnOk.wk i29 rfl rfl ?_
  unfold F29_rmap_Eval_1 at hR
  change WK _ _ _ [ac29] _ ⟨[(0, .agg (TClause.c x0)), (1, .rptr (TRoute.c a1))], [], 0⟩
  unfold ac29
  refine WK.seq ?_
  refine WK.regx mixed ?_
  refine GX.step (v' := .ptr 0 0) (heap' := [(0, .box (TClause.c x0))]) (next' := 1) rfl rfl rfl rfl rfl rfl rfl ?_
  refine GX.pure (v' := .bool false) rfl rfl rfl rfl rfl ?_
  refine GX.done ?_
  refine WK.seq ?_
  refine WK.regx mixed ?_
  refine GX.pure (v' := .agg (TClause.c x0)) rfl rfl rfl rfl rfl ?_
  refine GX.pure (v' := .agg (TRoute.c a1)) rfl rfl rfl rfl rfl ?_
  generalize hc6 : F18_rmap_Matches x0 a1 = c6 at hR
  try dsimp only at hR
  refine GX.callp (r := .bool c6) rfl rfl rfl (f18_ok x0 a1 _ hc6) rfl rfl ?_
  refine GX.pure (v' := .bool c6) rfl rfl rfl rfl rfl ?_
  refine GX.done ?_
  refine WK.ret ?_
  subst hR
  exact RetQ.fr [] (.inr rfl) rfl rfl rfl rfl

theorem f13_ok (m0 : List TClause) (t1 : TRoute) (R : TRoute × Bool × Int) (hR : F13_rmap_Eval m0 t1 = R) : FnOk Try.prog 13 [.ro 12 (m0.map TClause.c), .agg (TRoute.c t1)] [] 0 (.tup [.agg (TRoute.c R.1), .bool R.2.1, .int .i64 R.2.2]) [] 0 := by
  refine FnOk.wk i13 rfl rfl ?_
  unfold F13_rmap_Eval at hR
  change WK _ _ _ [ac13] _ ⟨[(0, .ro 12 (m0.map TClause.c)), (1, .agg (TRoute.c t1))], [], 0⟩
  unfold ac13
  refine WK.seq ?_
  refine WK.regx mixed ?_
  refine GX.step (v' := .ptr 0 0) (heap' := [(0, .box (TRoute.c t1))]) (next' := 1) rfl rfl rfl rfl rfl rfl rfl ?_
  refine GX.step (v' := .ptr 1 0) (heap' := [(0, .box (TRoute.c t1)), (1, .box [.int .u32 0, .int .i64 0, .int .i64 0, .int .i64 0, .int .u32 0])]) (next' := 2) rfl rfl rfl rfl rfl rfl rfl ?_
  refine GX.pure (v' := .bool false) rfl rfl rfl rfl rfl ?_
  refine GX.pure (v' := .int .i64 0) rfl rfl rfl rfl rfl ?_
  refine GX.done ?_
  refine WK.seq ?_
  refine WK.regx mixed ?_
  refine GX.pure (v' := .ro 12 (m0.map TClause.c)) rfl rfl rfl rfl rfl ?_
  refine GX.pure (v' := .fn 29 [] [.ptr 0 0]) rfl rfl rfl rfl rfl ?_
  generalize hc10 : F28_slices_IndexFunc m0 (fun y0 => F29_rmap_Eval_1 y0 t1) = c10 at hR
  try dsimp only at hR
  refine GX.callbp (r := .int .i64 c10) [0] rfl rfl rfl rfl (f28_ok m0 29 [] [.rptr (TRoute.c t1)] (fun y0 => F29_rmap_Eval_1 y0 t1) ⟨rfl, rfl⟩ (fun y0 _ hr => f29_ok y0 t1 _ hr) _ hc10) rfl rfl ?_
  refine GX.pure (v' := .int .i64 c10) rfl rfl rfl rfl rfl ?_
  refine GX.done ?_
  refine WK.seq ?_
  refine WK.blockK (fun _ hK1 => ?_)
  refine WK.seq ?_
  refine WK.regx mixed ?_
  refine GX.pure (v' := .int .i64 c10) rfl rfl rfl rfl rfl ?_
  refine GX.pure (v' := .bool (decide (c10 < 0))) rfl rfl rfl rfl rfl ?_
  refine GX.pure (v' := .bool (decide (c10 < 0))) rfl rfl rfl rfl rfl ?_
  refine GX.done ?_
  rcases bool_two (decide (c10 < 0)) with hb2 | hb2
  · rw [hb2]; try simp only [hb2, cond_true, cond_false, Bool.true_and, Bool.false_and, Bool.true_or, Bool.false_or, Bool.not_true, Bool.not_false] at hR
    refine WK.condF rfl ?_
    refine WK.seq ?_
    refine WK.regx mixed ?_
    refine GX.pure (v' := .ro 12 (m0.map TClause.c)) rfl rfl rfl rfl rfl ?_
    refine GX.pure (v' := .int .i64 c10) rfl rfl rfl rfl rfl ?_
    refine GX.idxT (c := TClause.c) (x := (m0.getD c10.toNat default)) rfl rfl rfl (by first | exact wrap_u64_nonneg _ | exact wrap_u32_nonneg _ | omega | exact F28_slices_IndexFunc_lt (by assumption) (by assumption) | exact F47_slices_IndexFunc_lt (by assumption) (by assumption) | ((try simp only [decide_eq_true_eq, decide_eq_false_iff_not, Bool.not_eq_true, Bool.not_eq_false] at *); first | omega | (rw [wrap64_of (by omega) (by omega)]; omega) | (unfold min_ max_; (repeat' split) <;> first | omega | (rw [wrap64_of (by omega) (by omega)]; omega)))) (getD_at (by first | exact wrap_u64_nonneg _ | exact wrap_u32_nonneg _ | omega | exact F28_slices_IndexFunc_lt (by assumption) (by assumption) | exact F47_slices_IndexFunc_lt (by assumption) (by assumption) | ((try simp only [decide_eq_true_eq, decide_eq_false_iff_not, Bool.not_eq_true, Bool.not_eq_false] at *); first | omega | (rw [wrap64_of (by omega) (by omega)]; omega) | (unfold min_ max_; (repeat' split) <;> first | omega | (rw [wrap64_of (by omega) (by omega)]; omega))))) ?_
    refine GX.pure (v' := .rptr [.bool ((m0.getD c10.toNat default).Permit), .ro 6 (((m0.getD c10.toNat default).Listf).map TRule.c), .int .i64 ((m0.getD c10.toNat default).MKind), .int .i64 ((m0.getD c10.toNat default).MLow), .int .i64 ((m0.getD c10.toNat default).MHigh), .ro 1 (((m0.getD c10.toNat default).MTags).map c_u32), .int .i64 ((m0.getD c10.toNat default).SCost), .int .i64 ((m0.getD c10.toNat default).SPlus), .int .i64 ((m0.getD c10.toNat default).SKind), .bool ((m0.getD c10.toNat default).SetTag), .int .u32 ((m0.getD c10.toNat default).STag)]) rfl rfl rfl rfl rfl ?_
    refine GX.pure (v' := .bool ((m0.getD c10.toNat default).Permit)) rfl rfl rfl rfl rfl ?_
    refine GX.pure (v' := .bool (!((m0.getD c10.toNat default).Permit))) rfl rfl rfl rfl rfl ?_
    refine GX.pure (v' := .bool (!((m0.getD c10.toNat default).Permit))) rfl rfl rfl rfl rfl ?_
    refine GX.done ?_
    rcases bool_two ((m0.getD c10.toNat default).Permit) with hb3 | hb3
    · rw [hb3]; try simp only [hb3, cond_true, cond_false, Bool.true_and, Bool.false_and, Bool.true_or, Bool.false_or, Bool.not_true, Bool.not_false] at hR
      refine WK.condT rfl ?_
      refine WK.seq ?_
      refine WK.drawn mixed ?_
      refine RD.pure (v' := .agg [.int .u32 0, .int .i64 0, .int .i64 0, .int .i64 0, .int .u32 0]) rfl rfl rfl rfl rfl ?_
      refine RD.pure (v' := .ro 12 (m0.map TClause.c)) rfl rfl rfl rfl rfl ?_
      refine RD.pure (v' := .int .i64 c10) rfl rfl rfl rfl rfl ?_
      refine RD.idxT (c := TClause.c) (x := (m0.getD c10.toNat default)) rfl rfl rfl (by first | exact wrap_u64_nonneg _ | exact wrap_u32_nonneg _ | omega | exact F28_slices_IndexFunc_lt (by assumption) (by assumption) | exact F47_slices_IndexFunc_lt (by assumption) (by assumption) | ((try simp only [decide_eq_true_eq, decide_eq_false_iff_not, Bool.not_eq_true, Bool.not_eq_false] at *); first | omega | (rw [wrap64_of (by omega) (by omega)]; omega) | (unfold min_ max_; (repeat' split) <;> first | omega | (rw [wrap64_of (by omega) (by omega)]; omega)))) (getD_at (by first | exact wrap_u64_nonneg _ | exact wrap_u32_nonneg _ | omega | exact F28_slices_IndexFunc_lt (by assumption) (by assumption) | exact F47_slices_IndexFunc_lt (by assumption) (by assumption) | ((try simp only [decide_eq_true_eq, decide_eq_false_iff_not, Bool.not_eq_true, Bool.not_eq_false] at *); first | omega | (rw [wrap64_of (by omega) (by omega)]; omega) | (unfold min_ max_; (repeat' split) <;> first | omega | (rw [wrap64_of (by omega) (by omega)]; omega))))) ?_
      refine RD.pure (v' := .rptr [.int .i64 ((m0.getD c10.toNat default).Seq), .bool ((m0.getD c10.toNat default).Permit), .ro 6 (((m0.getD c10.toNat default).Listf).map TRule.c), .int .i64 ((m0.getD c10.toNat default).MKind), .int .i64 ((m0.getD c10.toNat default).MLow), .int .i64 ((m0.getD c10.toNat default).MHigh), .ro 1 (((m0.getD c10.toNat default).MTags).map c_u32), .int .i64 ((m0.getD c10.toNat default).SCost), .int .i64 ((m0.getD c10.toNat default).SPlus), .int .i64 ((m0.getD c10.toNat default).SKind), .bool ((m0.getD c10.toNat default).SetTag), .int .u32 ((m0.getD c10.toNat default).STag)]) rfl rfl rfl rfl rfl ?_
      refine RD.pure (v' := .int .i64 ((m0.getD c10.toNat default).Seq)) rfl rfl rfl rfl rfl ?_
      refine RD.step0 (heap' := [(0, .box (TRoute.c t1)), (1, .box [.int .u32 0, .int .i64 0, .int .i64 0, .int .i64 0, .int .u32 0])]) (next' := 2) rfl rfl rfl rfl rfl ?_
      refine RD.pure (v' := .bool false) rfl rfl rfl rfl rfl ?_
      refine RD.pure (v' := .int .i64 ((m0.getD c10.toNat default).Seq)) rfl rfl rfl rfl rfl ?_
      refine RD.done rfl ?_
      refine WK.ret ?_
      refine QF.ret ?_
      subst hR
      exact RetQ.fr [] (.inr rfl) rfl rfl rfl rfl
    · rw [hb3]; try simp only [hb3, cond_true, cond_false, Bool.true_and, Bool.false_and, Bool.true_or, Bool.false_or, Bool.not_true, Bool.not_false] at hR
      refine WK.condF rfl ?_
      refine WK.skip ?_
      refine WK.nil (QF.normal (hK1 _ ?_))
      refine WK.seq ?_
      refine WK.drawn mixed ?_
      refine RD.pure (v' := .ro 12 (m0.map TClause.c)) rfl rfl rfl rfl rfl ?_
      refine RD.pure (v' := .int .i64 c10) rfl rfl rfl rfl rfl ?_
      refine RD.idxT (c := TClause.c) (x := (m0.getD c10.toNat default)) rfl rfl rfl (by first | exact wrap_u64_nonneg _ | exact wrap_u32_nonneg _ | omega | exact F28_slices_IndexFunc_lt (by assumption) (by assumption) | exact F47_slices_IndexFunc_lt (by assumption) (by assumption) | ((try simp only [decide_eq_true_eq, decide_eq_false_iff_not, Bool.not_eq_true, Bool.not_eq_false] at *); first | omega | (rw [wrap64_of (by omega) (by omega)]; omega) | (unfold min_ max_; (repeat' split) <;> first | omega | (rw [wrap64_of (by omega) (by omega)]; omega)))) (getD_at (by first | exact wrap_u64_nonneg _ | exact wrap_u32_nonneg _ | omega | exact F28_slices_IndexFunc_lt (by assumption) (by assumption) | exact F47_slices_IndexFunc_lt (by assumption) (by assumption) | ((try simp only [decide_eq_true_eq, decide_eq_false_iff_not, Bool.not_eq_true, Bool.not_eq_false] at *); first | omega | (rw [wrap64_of (by omega) (by omega)]; omega) | (unfold min_ max_; (repeat' split) <;> first | omega | (rw [wrap64_of (by omega) (by omega)]; omega))))) ?_
      refine RD.pure (v' := .agg [.int .i64 ((m0.getD c10.toNat default).Seq), .bool ((m0.getD c10.toNat default).Permit), .ro 6 (((m0.getD c10.toNat default).Listf).map TRule.c), .int .i64 ((m0.getD c10.toNat default).MKind), .int .i64 ((m0.getD c10.toNat default).MLow), .int .i64 ((m0.getD c10.toNat default).MHigh), .ro 1 (((m0.getD c10.toNat default).MTags).map c_u32), .int .i64 ((m0.getD c10.toNat default).SCost), .int .i64 ((m0.getD c10.toNat default).SPlus), .int .i64 ((m0.getD c10.toNat default).SKind), .bool ((m0.getD c10.toNat default).SetTag), .int .u32 ((m0.getD c10.toNat default).STag)]) rfl rfl rfl rfl rfl ?_
      refine RD.pure (v' := .agg (TRoute.c t1)) rfl rfl rfl rfl rfl ?_
      generalize hc33 : F20_rmap_Change (m0.getD c10.toNat default) t1 = c33 at hR
      try dsimp only at hR
      refine RD.callp (r := .agg [.int .u32 c33.P.A, .int .i64 c33.P.N, .int .i64 c33.Kind, .int .i64 c33.Cost, .int .u32 c33.Tag]) rfl rfl rfl (f20_ok (m0.getD c10.toNat default) t1 _ hc33) rfl rfl ?_
      refine RD.pure (v' := .ro 12 (m0.map TClause.c)) rfl rfl rfl rfl rfl ?_
      refine RD.pure (v' := .int .i64 c10) rfl rfl rfl rfl rfl ?_
      refine RD.idxT (c := TClause.c) (x := (m0.getD c10.toNat default)) rfl rfl rfl (by first | exact wrap_u64_nonneg _ | exact wrap_u32_nonneg _ | omega | exact F28_slices_IndexFunc_lt (by assumption) (by assumption) | exact F47_slices_IndexFunc_lt (by assumption) (by assumption) | ((try simp only [decide_eq_true_eq, decide_eq_false_iff_not, Bool.not_eq_true, Bool.not_eq_false] at *); first | omega | (rw [wrap64_of (by omega) (by omega)]; omega) | (unfold min_ max_; (repeat' split) <;> first | omega | (rw [wrap64_of (by omega) (by omega)]; omega)))) (getD_at (by first | exact wrap_u64_nonneg _ | exact wrap_u32_nonneg _ | omega | exact F28_slices_IndexFunc_lt (by assumption) (by assumption) | exact F47_slices_IndexFunc_lt (by assumption) (by assumption) | ((try simp only [decide_eq_true_eq, decide_eq_false_iff_not, Bool.not_eq_true, Bool.not_eq_false] at *); first | omega | (rw [wrap64_of (by omega) (by omega)]; omega) | (unfold min_ max_; (repeat' split) <;> first | omega | (rw [wrap64_of (by omega) (by omega)]; omega))))) ?_
      refine RD.pure (v' := .rptr [.int .i64 ((m0.getD c10.toNat default).Seq), .bool ((m0.getD c10.toNat default).Permit), .ro 6 (((m0.getD c10.toNat default).Listf).map TRule.c), .int .i64 ((m0.getD c10.toNat default).MKind), .int .i64 ((m0.getD c10.toNat default).MLow), .int .i64 ((m0.getD c10.toNat default).MHigh), .ro 1 (((m0.getD c10.toNat default).MTags).map c_u32), .int .i64 ((m0.getD c10.toNat default).SCost), .int .i64 ((m0.getD c10.toNat default).SPlus), .int .i64 ((m0.getD c10.toNat default).SKind), .bool ((m0.getD c10.toNat default).SetTag), .int .u32 ((m0.getD c10.toNat default).STag)]) rfl rfl rfl rfl rfl ?_
      refine RD.pure (v' := .int .i64 ((m0.getD c10.toNat default).Seq)) rfl rfl rfl rfl rfl ?_
      refine RD.step0 (heap' := [(0, .box (TRoute.c t1)), (1, .box (TRoute.c c33))]) (next' := 2) rfl rfl rfl rfl rfl ?_
      refine RD.pure (v' := .bool true) rfl rfl rfl rfl rfl ?_
      refine RD.pure (v' := .int .i64 ((m0.getD c10.toNat default).Seq)) rfl rfl rfl rfl rfl ?_
      refine RD.done rfl ?_
      refine WK.ret ?_
      subst hR
      exact RetQ.fr [] (.inr rfl) rfl rfl rfl rfl
  · rw [hb2]; try simp only [hb2, cond_true, cond_false, Bool.true_and, Bool.false_and, Bool.true_or, Bool.false_or, Bool.not_true, Bool.not_false] at hR
    refine WK.condT rfl ?_
    refine WK.seq ?_
    refine WK.regx mixed ?_
    refine GX.pure (v' := .agg [.int .u32 0, .int .i64 0, .int .i64 0, .int .i64 0, .int .u32 0]) rfl rfl rfl rfl rfl ?_
    refine GX.step0 (heap' := [(0, .box (TRoute.c t1)), (1, .box [.int .u32 0, .int .i64 0, .int .i64 0, .int .i64 0, .int .u32 0])]) (next' := 2) rfl rfl rfl rfl rfl ?_
    refine GX.pure (v' := .bool false) rfl rfl rfl rfl rfl ?_
    refine GX.pure (v' := .int .i64 0) rfl rfl rfl rfl rfl ?_
    refine GX.done ?_
    refine WK.ret ?_
    refine QF.ret ?_
    subst hR
    exact RetQ.fr [] (.inr rfl) rfl rfl rfl rfl

theorem f41_ok (x0 : TRule) (R : Bool) (hR : F41_rmap_isList_1 x0 = R) : FnOk Try.prog 41 [.agg (TRule.c x0)] [] 0 (.bool R) [] 0 := by
  refine FnOk.wk i41 rfl rfl ?_
  unfold F41_rmap_isList_1 at hR
  change WK _ _ _ [ac41] _ ⟨[(0, .agg (TRule.c x0))], [], 0⟩
  unfold ac41
  refine WK.seq ?_
  refine WK.regx mixed ?_
  refine GX.step (v' := .ptr 0 0) (heap' := [(0, .box (TRule.c x0))]) (next' := 1) rfl rfl rfl rfl rfl rfl rfl ?_
  refine GX.pure (v' := .bool false) rfl rfl rfl rfl rfl ?_
  refine GX.done ?_
  refine WK.seq ?_
  refine WK.regx mixed ?_
  refine GX.pure (v' := .agg (TRule.c x0)) rfl rfl rfl rfl rfl ?_
  generalize hc4 : F42_plist_May x0 = c4 at hR
  try dsimp only at hR
  refine GX.callp (r := .bool c4) rfl rfl rfl (f42_ok x0 _ hc4) rfl rfl ?_
  refine GX.pure (v' := .bool (!c4)) rfl rfl rfl rfl rfl ?_
  refine GX.pure (v' := .bool (!c4)) rfl rfl rfl rfl rfl ?_
  refine GX.done ?_
  refine WK.ret ?_
  subst hR
  exact RetQ.fr [] (.inr rfl) rfl rfl rfl rfl

theorem f43_ok (s0 : List TRule) (gf1 : FuncId) (gf1f gf1c : List PVal) (hf1 : TRule → Bool) (gf1k : PVal.closed.go gf1f = true ∧ PVal.closed.go gf1c = true) (gf1o : ∀ (y0 : TRule) (R : Bool), hf1 y0 = R → FnOk Try.prog gf1 (gf1f ++ [.agg (TRule.c y0)] ++ gf1c) [] 0 (.bool R) [] 0) (R : Bool) (hR : F43_slices_ContainsFunc s0 hf1 = R) : FnOk Try.prog 43 [.ro 6 (s0.map TRule.c), .fn gf1 gf1f gf1c] [] 0 (.bool R) [] 0 := by
  refine FnOk.wk i43 rfl rfl ?_
  unfold F43_slices_ContainsFunc at hR
  change WK _ _ _ [ac43] _ ⟨[(0, .ro 6 (s0.map TRule.c)), (1, .fn gf1 gf1f gf1c)], [], 0⟩
  unfold ac43
  refine WK.seq ?_
  refine WK.regx mixed ?_
  refine GX.pure (v' := .bool false) rfl rfl rfl rfl rfl ?_
  refine GX.done ?_
  refine WK.seq ?_
  refine WK.regx mixed ?_
  refine GX.pure (v' := .ro 6 (s0.map TRule.c)) rfl rfl rfl rfl rfl ?_
  refine GX.pure (v' := .fn gf1 gf1f gf1c) rfl rfl rfl rfl rfl ?_
  generalize hc7 : F47_slices_IndexFunc s0 hf1 = c7 at hR
  try dsimp only at hR
  refine GX.callp (r := .int .i64 c7) rfl rfl rfl (f47_ok s0 gf1 gf1f gf1c hf1 gf1k gf1o _ hc7) (closedGo_cons rfl (closedGo_cons (closed_fn gf1k) rfl)) rfl ?_
  refine GX.pure (v' := .bool (decide (0 ≤ c7))) rfl rfl rfl rfl rfl ?_
  refine GX.pure (v' := .bool (decide (0 ≤ c7))) rfl rfl rfl rfl rfl ?_
  refine GX.done ?_
  refine WK.ret ?_
  subst hR
  exact RetQ.fr [] (.inr rfl) rfl rfl rfl rfl

theorem f44_ok (l0 : List TRule) (gnumber1 : FuncId) (gnumber1f gnumber1c : List PVal) (hnumber1 : TRule → Int) (gnumber1k : PVal.closed.go gnumber1f = true ∧ PVal.closed.go gnumber1c = true) (gnumber1o : ∀ (y0 : TRule) (R : Int), hnumber1 y0 = R → FnOk Try.prog gnumber1 (gnumber1f ++ [.agg (TRule.c y0)] ++ gnumber1c) [] 0 (.int .i64 R) [] 0) (R : Bool) (hR : F44_rmap_rises l0 hnumber1 = R) : FnOk Try.prog 44 [.ro 6 (l0.map TRule.c), .fn gnumber1 gnumber1f gnumber1c] [] 0 (.bool R) [] 0 := by
  refine FnOk.wk i44 rfl rfl ?_
  unfold F44_rmap_rises at hR
  change WK _ _ _ [ac44] _ ⟨[(0, .ro 6 (l0.map TRule.c)), (1, .fn gnumber1 gnumber1f gnumber1c)], [], 0⟩
  unfold ac44
  refine WK.seq ?_
  refine WK.regx mixed ?_
  refine GX.pure (v' := .bool false) rfl rfl rfl rfl rfl ?_
  refine GX.done ?_
  refine WK.seq ?_
  refine WK.seq ?_
  refine WK.regx mixed ?_
  refine GX.pure (v' := .ro 6 (l0.map TRule.c)) rfl rfl rfl rfl rfl ?_
  refine GX.pure (v' := .int .i64 (l0.length : Int)) rfl rfl rfl rfl (len_map _ _) ?_
  refine GX.pure (v' := .int .i64 0) rfl rfl rfl rfl rfl ?_
  refine GX.done ?_
  refine WK.len (t := 0) rfl (by simp) (fun hlen_1 => ?_)
  rw [List.length_map] at hlen_1
  generalize hZ_1 : F44_rmap_rises_l1 l0 hnumber1 0 l0 = Z_1 at hR
  refine WK.forK (fun k s => ∃ (i8 : Nat), i8 ≤ l0.length ∧ k = l0.length - i8 ∧ F44_rmap_rises_l1 l0 hnumber1 i8 (l0.drop i8) = Z_1 ∧ s = ⟨[(0, .ro 6 (l0.map TRule.c)), (1, .fn gnumber1 gnumber1f gnumber1c), (7, .int .i64 (l0.length : Int)), (8, .int .i64 (i8 : Int))], [], 0⟩) l0.length ⟨⟨[(0, .ro 6 (l0.map TRule.c)), (1, .fn gnumber1 gnumber1f gnumber1c), (7, .int .i64 (l0.length : Int)), (8, .int .i64 (0 : Int))], [], 0⟩, Conv.keep [] [] [0, 1, 7, 8] rfl rfl (viewE_cons rfl rfl (viewE_cons rfl (viewP_fnc gnumber1k) (viewE_cons rfl rfl (viewE_cons rfl rfl viewE_nil)))) rfl rfl, 0, (by first | omega | ((try simp only [List.length_append, List.length_cons, List.length_nil] at *) <;> omega) | (have hlf := may03_len (by assumption) (by assumption); omega)), rfl, hZ_1, rfl⟩ ?_
  rintro _ _ ⟨i8, hi_1, rfl, hL_1, rfl⟩ again_1 out_1 Q_1 hagain_1 hout_1 hQ_1
  refine WK.seq ?_
  refine WK.regx mixed ?_
  refine GX.pure (v' := .bool (decide ((i8 : Int) < (l0.length : Int)))) rfl rfl rfl rfl rfl ?_
  refine GX.done ?_
  refine WK.seq ?_
  rcases bool_two (decide ((i8 : Int) < (l0.length : Int))) with hb2 | hb2
  · rw [hb2]
    rw [drop_end hb2, F44_rmap_rises_l1] at hL_1
    refine WK.condF rfl ?_
    refine WK.exit ?_
    refine QF.exit (hout_1 _ ?_)
    subst hL_1
    try dsimp only [cond_true, cond_false] at hR
    refine WK.seq ?_
    refine WK.regx mixed ?_
    refine GX.pure (v' := .bool true) rfl rfl rfl rfl rfl ?_
    refine GX.done ?_
    refine WK.ret ?_
    subst hR
    exact RetQ.fr [] (.inr rfl) rfl rfl rfl rfl
  · rw [hb2]
    obtain ⟨x8, hx1, hd1, hlt1⟩ := drop_more hb2
    rw [hd1, F44_rmap_rises_l1] at hL_1
    refine WK.condT rfl ?_
    refine WK.skip ?_
    refine WK.seq ?_
    refine WK.blockK (fun _ hK3 => ?_)
    refine WK.seq ?_
    refine WK.regx mixed ?_
    refine GX.pure (v' := .int .i64 (i8 : Int)) rfl rfl rfl rfl rfl ?_
    refine GX.pure (v' := .int .i64 (i8 : Int)) rfl rfl rfl rfl rfl ?_
    refine GX.done ?_
    refine WK.seq ?_
    refine WK.drawn mixed ?_
    refine RD.pure (v' := .int .i64 (i8 : Int)) rfl rfl rfl rfl rfl ?_
    refine RD.pure (v' := .bool (decide (0 < (i8 : Int)))) rfl rfl rfl rfl rfl ?_
    refine RD.pure (v' := .bool (decide (0 < (i8 : Int)))) rfl rfl rfl rfl rfl ?_
    rcases bool_two (decide (0 < (i8 : Int))) with hb4 | hb4
    · rw [hb4]; try simp only [hb4, cond_true, cond_false, Bool.true_and, Bool.false_and, Bool.true_or, Bool.false_or, Bool.not_true, Bool.not_false] at hL_1
      refine RD.skip rfl rfl ?_
      refine RD.skip rfl rfl ?_
      refine RD.skip rfl rfl ?_
      refine RD.skip rfl rfl ?_
      refine RD.skip rfl rfl ?_
      refine RD.skip rfl rfl ?_
      refine RD.skip rfl rfl ?_
      refine RD.skip rfl rfl ?_
      refine RD.skip rfl rfl ?_
      refine RD.skip rfl rfl ?_
      refine RD.skip rfl rfl ?_
      refine RD.skip rfl rfl ?_
      refine RD.skip rfl rfl ?_
      refine RD.skip rfl rfl ?_
      refine RD.pure (v' := .bool false) rfl rfl rfl rfl rfl ?_
      refine RD.done rfl ?_
      refine WK.condF rfl ?_
      refine WK.skip ?_
      refine WK.nil (QF.normal (hK3 _ ?_))
      refine WK.regx mixed ?_
      refine GX.pure (v' := .int .i64 ((i8 + 1 : Nat) : Int)) rfl rfl rfl rfl (congrArg (PVal.int .i64) (wrap_up hlt1 hlen_1)) ?_
      refine GX.pure (v' := .int .i64 ((i8 + 1 : Nat) : Int)) rfl rfl rfl rfl rfl ?_
      refine GX.done ?_
      refine WK.nil (QF.normal ?_)
      exact hagain_1 _ (l0.length - (i8 + 1)) ⟨[(0, .ro 6 (l0.map TRule.c)), (1, .fn gnumber1 gnumber1f gnumber1c), (7, .int .i64 (l0.length : Int)), (8, .int .i64 ((i8 + 1) : Int))], [], 0⟩ (by first | omega | ((try simp only [List.length_append, List.length_cons, List.length_nil] at *) <;> omega) | (have hlf := may03_len (by assumption) (by assumption); omega)) (Conv.keep [] [] [0, 1, 7, 8] rfl rfl (viewE_cons rfl rfl (viewE_cons rfl (viewP_fnc gnumber1k) (viewE_cons rfl rfl (viewE_cons rfl rfl viewE_nil)))) rfl rfl) ⟨i8 + 1, (by first | omega | ((try simp only [List.length_append, List.length_cons, List.length_nil] at *) <;> omega) | (have hlf := may03_len (by assumption) (by assumption); omega)), rfl, hL_1, rfl⟩
    · rw [hb4]; try simp only [hb4, cond_true, cond_false, Bool.true_and, Bool.false_and, Bool.true_or, Bool.false_or, Bool.not_true, Bool.not_false] at hL_1
      refine RD.pure (v' := .fn gnumber1 gnumber1f gnumber1c) rfl rfl rfl rfl rfl ?_
      refine RD.pure (v' := .ro 6 (l0.map TRule.c)) rfl rfl rfl rfl rfl ?_
      refine RD.pure (v' := .int .i64 (i8 : Int)) rfl rfl rfl rfl rfl ?_
      refine RD.idxT (c := TRule.c) (x := x8) rfl rfl rfl (Int.natCast_nonneg _) hx1 ?_
      refine RD.pure (v' := .agg (TRule.c x8)) rfl rfl rfl rfl rfl ?_
      generalize hc19 : hnumber1 x8 = c19 at hL_1
      try dsimp only at hL_1
      refine RD.callvp (r := .int .i64 c19) rfl rfl rfl (gnumber1o x8 _ hc19) (closed3 gnumber1k.1 rfl gnumber1k.2) rfl ?_
      refine RD.pure (v' := .fn gnumber1 gnumber1f gnumber1c) rfl rfl rfl rfl rfl ?_
      refine RD.pure (v' := .ro 6 (l0.map TRule.c)) rfl rfl rfl rfl rfl ?_
      refine RD.pure (v' := .int .i64 (i8 : Int)) rfl rfl rfl rfl rfl ?_
      refine RD.pure (v' := .int .i64 ((i8 - 1 : Nat) : Int)) rfl rfl rfl rfl (congrArg (PVal.int .i64) (wrap_down hb4 hlt1 hlen_1)) ?_
      refine RD.idxT (c := TRule.c) (x := (l0.getD (i8 - 1) default)) rfl rfl rfl (Int.natCast_nonneg _) (getD_at (by first | exact wrap_u64_nonneg _ | exact wrap_u32_nonneg _ | omega | exact F28_slices_IndexFunc_lt (by assumption) (by assumption) | exact F47_slices_IndexFunc_lt (by assumption) (by assumption) | ((try simp only [decide_eq_true_eq, decide_eq_false_iff_not, Bool.not_eq_true, Bool.not_eq_false] at *); first | omega | (rw [wrap64_of (by omega) (by omega)]; omega) | (unfold min_ max_; (repeat' split) <;> first | omega | (rw [wrap64_of (by omega) (by omega)]; omega))))) ?_
      refine RD.pure (v' := .agg [.int .i64 ((l0.getD (i8 - 1) default).Seq), .bool ((l0.getD (i8 - 1) default).Permit), .int .u32 (((l0.getD (i8 - 1) default).P).A), .int .i64 (((l0.getD (i8 - 1) default).P).N), .int .i64 ((l0.getD (i8 - 1) default).Ge), .int .i64 ((l0.getD (i8 - 1) default).Le)]) rfl rfl rfl rfl rfl ?_
      generalize hc26 : hnumber1 (⟨(l0.getD (i8 - 1) default).Seq, (l0.getD (i8 - 1) default).Permit, ((l0.getD (i8 - 1) default).P), (l0.getD (i8 - 1) default).Ge, (l0.getD (i8 - 1) default).Le⟩ : TRule) = c26 at hL_1
      try dsimp only at hL_1
      refine RD.callvp (r := .int .i64 c26) rfl rfl rfl (gnumber1o (⟨(l0.getD (i8 - 1) default).Seq, (l0.getD (i8 - 1) default).Permit, ((l0.getD (i8 - 1) default).P), (l0.getD (i8 - 1) default).Ge, (l0.getD (i8 - 1) default).Le⟩ : TRule) _ hc26) (closed3 gnumber1k.1 rfl gnumber1k.2) rfl ?_
      refine RD.pure (v' := .bool (decide (c19 ≤ c26))) rfl rfl rfl rfl rfl ?_
      refine RD.pure (v' := .bool (decide (c19 ≤ c26))) rfl rfl rfl rfl rfl ?_
      refine RD.done rfl ?_
      rcases bool_two (decide (c19 ≤ c26)) with hb5 | hb5
      · rw [hb5]; try simp only [hb5, cond_true, cond_false, Bool.true_and, Bool.false_and, Bool.true_or, Bool.false_or, Bool.not_true, Bool.not_false] at hL_1
        refine WK.condF rfl ?_
        refine WK.skip ?_
        refine WK.nil (QF.normal (hK3 _ ?_))
        refine WK.regx mixed ?_
        refine GX.pure (v' := .int .i64 ((i8 + 1 : Nat) : Int)) rfl rfl rfl rfl (congrArg (PVal.int .i64) (wrap_up hlt1 hlen_1)) ?_
        refine GX.pure (v' := .int .i64 ((i8 + 1 : Nat) : Int)) rfl rfl rfl rfl rfl ?_
        refine GX.done ?_
        refine WK.nil (QF.normal ?_)
        exact hagain_1 _ (l0.length - (i8 + 1)) ⟨[(0, .ro 6 (l0.map TRule.c)), (1, .fn gnumber1 gnumber1f gnumber1c), (7, .int .i64 (l0.length : Int)), (8, .int .i64 ((i8 + 1) : Int))], [], 0⟩ (by first | omega | ((try simp only [List.length_append, List.length_cons, List.length_nil] at *) <;> omega) | (have hlf := may03_len (by assumption) (by assumption); omega)) (Conv.keep [] [] [0, 1, 7, 8] rfl rfl (viewE_cons rfl rfl (viewE_cons rfl (viewP_fnc gnumber1k) (viewE_cons rfl rfl (viewE_cons rfl rfl viewE_nil)))) rfl rfl) ⟨i8 + 1, (by first | omega | ((try simp only [List.length_append, List.length_cons, List.length_nil] at *) <;> omega) | (have hlf := may03_len (by assumption) (by assumption); omega)), rfl, hL_1, rfl⟩
      · rw [hb5]; try simp only [hb5, cond_true, cond_false, Bool.true_and, Bool.false_and, Bool.true_or, Bool.false_or, Bool.not_true, Bool.not_false] at hL_1
        refine WK.condT rfl ?_
        refine WK.seq ?_
        refine WK.regx mixed ?_
        refine GX.pure (v' := .bool false) rfl rfl rfl rfl rfl ?_
        refine GX.done ?_
        refine WK.ret ?_
        refine QF.ret ?_
        refine QF.ret (hQ_1 _ _ ?_)
        subst hL_1
        subst hR
        exact RetQ.fr [] (.inr rfl) rfl rfl rfl rfl

theorem f45_ok (x0 : TRule) (R : Int) (hR : F45_rmap_isList_2 x0 = R) : FnOk Try.prog 45 [.agg (TRule.c x0)] [] 0 (.int .i64 R) [] 0 := by
  refine FnOk.wk i45 rfl rfl ?_
  unfold F45_rmap_isList_2 at hR
  change WK _ _ _ [ac45] _ ⟨[(0, .agg (TRule.c x0))], [], 0⟩
  unfold ac45
  refine WK.seq ?_
  refine WK.regx mixed ?_
  refine GX.step (v' := .ptr 0 0) (heap' := [(0, .box (TRule.c x0))]) (next' := 1) rfl rfl rfl rfl rfl rfl rfl ?_
  refine GX.pure (v' := .int .i64 0) rfl rfl rfl rfl rfl ?_
  refine GX.done ?_
  refine WK.seq ?_
  refine WK.regx mixed ?_
  refine GX.pure (v' := .ptr 0 0) rfl rfl rfl rfl rfl ?_
  refine GX.pure (v' := .int .i64 x0.Seq) rfl rfl rfl rfl rfl ?_
  refine GX.pure (v' := .int .i64 x0.Seq) rfl rfl rfl rfl rfl ?_
  refine GX.done ?_
  refine WK.ret ?_
  subst hR
  exact RetQ.fr [] (.inr rfl) rfl rfl rfl rfl

theorem f35_ok (l0 : List TRule) (R : Bool) (hR : F35_rmap_isList l0 = R) : FnOk Try.prog 35 [.ro 6 (l0.map TRule.c)] [] 0 (.bool R) [] 0 := by
  refine FnOk.wk i35 rfl rfl ?_
  unfold F35_rmap_isList at hR
  change WK _ _ _ [ac35] _ ⟨[(0, .ro 6 (l0.map TRule.c))], [], 0⟩
  unfold ac35
  refine WK.seq ?_
  refine WK.regx mixed ?_
  refine GX.pure (v' := .bool false) rfl rfl rfl rfl rfl ?_
  refine GX.done ?_
  refine WK.seq ?_
  refine WK.regx mixed ?_
  refine GX.pure (v' := .fn 41 [] []) rfl rfl rfl rfl rfl ?_
  refine GX.done ?_
  refine WK.seq ?_
  refine WK.regx mixed ?_
  refine GX.pure (v' := .ro 6 (l0.map TRule.c)) rfl rfl rfl rfl rfl ?_
  refine GX.pure (v' := .fn 41 [] []) rfl rfl rfl rfl rfl ?_
  generalize hc6 : F43_slices_ContainsFunc l0 (fun y0 => F41_rmap_isList_1 y0) = c6 at hR
  try dsimp only at hR
  refine GX.callp (r := .bool c6) rfl rfl rfl (f43_ok l0 41 [] [] (fun y0 => F41_rmap_isList_1 y0) ⟨rfl, rfl⟩ (fun y0 _ hr => f41_ok y0 _ hr) _ hc6) rfl rfl ?_
  refine GX.pure (v' := .bool (!c6)) rfl rfl rfl rfl rfl ?_
  refine GX.pure (v' := .bool (!c6)) rfl rfl rfl rfl rfl ?_
  rcases bool_two (c6) with hb1 | hb1
  · rw [hb1]; try simp only [hb1, cond_true, cond_false, Bool.true_and, Bool.false_and, Bool.true_or, Bool.false_or, Bool.not_true, Bool.not_false] at hR
    refine GX.pure (v' := .ro 6 (l0.map TRule.c)) rfl rfl rfl rfl rfl ?_
    generalize hc10 : F44_rmap_rises l0 (fun y0 => F45_rmap_isList_2 y0) = c10 at hR
    try dsimp only at hR
    refine GX.callp (r := .bool c10) rfl rfl rfl (f44_ok l0 45 [] [] (fun y0 => F45_rmap_isList_2 y0) ⟨rfl, rfl⟩ (fun y0 _ hr => f45_ok y0 _ hr) _ hc10) rfl rfl ?_
    refine GX.pure (v' := .bool c10) rfl rfl rfl rfl rfl ?_
    refine GX.pure (v' := .bool c10) rfl rfl rfl rfl rfl ?_
    refine GX.done ?_
    refine WK.ret ?_
    subst hR
    exact RetQ.fr [] (.inr rfl) rfl rfl rfl rfl
  · rw [hb1]; try simp only [hb1, cond_true, cond_false, Bool.true_and, Bool.false_and, Bool.true_or, Bool.false_or, Bool.not_true, Bool.not_false] at hR
    refine GX.skip rfl rfl ?_
    refine GX.skip rfl rfl ?_
    refine GX.pure (v' := .bool false) rfl rfl rfl rfl rfl ?_
    refine GX.pure (v' := .bool false) rfl rfl rfl rfl rfl ?_
    refine GX.done ?_
    refine WK.ret ?_
    subst hR
    exact RetQ.fr [] (.inr rfl) rfl rfl rfl rfl

end Go.Proofs.Ytagiapphmkdnmaa.Abs
