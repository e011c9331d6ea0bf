/- The functions walked: each computes its Lean function (printed by this work's own program gen.py). -/
import Derived.Test.YtagiapphmkdnmaaW4
set_option linter.unusedVariables false
set_option linter.unusedSimpArgs false
set_option maxRecDepth 10000
set_option maxHeartbeats 4000000
namespace Go.Proofs.Ytagiapphmkdnmaa.Abs
open Go

theorem f15_ok (x0 : TClause) (R : Bool) (hR : F15_rmap_May x0 = R) : FnOk Try.prog 15 [.agg (TClause.c x0)] [] 0 (.bool R) [] 0 := by
  refine FnOk.wk i15 rfl rfl ?_
  unfold F15_rmap_May at hR
  change WK _ _ _ [ac15] _ ⟨[(0, .agg (TClause.c x0))], [], 0⟩
  unfold ac15
  refine WK.seq ?_
  refine WK.regx mixed ?_
  refine GX.step (v' := .ptr 0 0) (heap' := [(0, .box (TClause.c x0))]) (next' := 1) rfl rfl rfl rfl rfl rfl rfl ?_
  refine GX.pure (v' := .bool false) rfl rfl rfl rfl rfl ?_
  refine GX.done ?_
  refine WK.seq ?_
  refine WK.regx mixed ?_
  refine GX.pure (v' := .ptr 0 3) rfl rfl rfl rfl rfl ?_
  refine GX.pure (v' := .int .i64 x0.MKind) rfl rfl rfl rfl rfl ?_
  generalize hc7 : F34_rmap_isIn x0.MKind (-1) 9 = c7 at hR
  try dsimp only at hR
  refine GX.callp (r := .bool c7) rfl rfl rfl (f34_ok x0.MKind (-1) 9 _ hc7) rfl rfl ?_
  refine GX.pure (v' := .bool c7) rfl rfl rfl rfl rfl ?_
  rcases bool_two (c7) with hb1 | hb1
  · rw [hb1]; try simp only [hb1, cond_true, cond_false, Bool.true_and, Bool.false_and, Bool.true_or, Bool.false_or, Bool.not_true, Bool.not_false] at hR
    refine GX.skip rfl rfl ?_
    refine GX.skip rfl rfl ?_
    refine GX.skip rfl rfl ?_
    refine GX.skip rfl rfl ?_
    refine GX.skip rfl rfl ?_
    refine GX.pure (v' := .bool false) rfl rfl rfl rfl rfl ?_
    refine GX.pure (v' := .bool false) rfl rfl rfl rfl rfl ?_
    refine GX.skip rfl rfl ?_
    refine GX.skip rfl rfl ?_
    refine GX.skip rfl rfl ?_
    refine GX.pure (v' := .bool false) rfl rfl rfl rfl rfl ?_
    refine GX.pure (v' := .bool false) rfl rfl rfl rfl rfl ?_
    refine GX.done ?_
    refine WK.seq ?_
    refine WK.regx mixed ?_
    refine GX.pure (v' := .ptr 0 7) rfl rfl rfl rfl rfl ?_
    refine GX.pure (v' := .int .i64 x0.SCost) rfl rfl rfl rfl rfl ?_
    generalize hc22 : F34_rmap_isIn x0.SCost (-1) 16777215 = c22 at hR
    try dsimp only at hR
    refine GX.callp (r := .bool c22) rfl rfl rfl (f34_ok x0.SCost (-1) 16777215 _ hc22) rfl rfl ?_
    refine GX.pure (v' := .bool c22) rfl rfl rfl rfl rfl ?_
    rcases bool_two (c22) with hb2 | hb2
    · rw [hb2]; try simp only [hb2, cond_true, cond_false, Bool.true_and, Bool.false_and, Bool.true_or, Bool.false_or, Bool.not_true, Bool.not_false] at hR
      refine GX.skip rfl rfl ?_
      refine GX.skip rfl rfl ?_
      refine GX.skip rfl rfl ?_
      refine GX.pure (v' := .bool false) rfl rfl rfl rfl rfl ?_
      refine GX.pure (v' := .bool false) rfl rfl rfl rfl rfl ?_
      refine GX.skip rfl rfl ?_
      refine GX.skip rfl rfl ?_
      refine GX.skip rfl rfl ?_
      refine GX.pure (v' := .bool false) rfl rfl rfl rfl rfl ?_
      refine GX.pure (v' := .bool false) rfl rfl rfl rfl rfl ?_
      refine GX.done ?_
      refine WK.seq ?_
      refine WK.regx mixed ?_
      refine GX.pure (v' := .ptr 0 0) rfl rfl rfl rfl rfl ?_
      refine GX.pure (v' := .int .i64 x0.Seq) rfl rfl rfl rfl rfl ?_
      generalize hc35 : F34_rmap_isIn x0.Seq 1 65535 = c35 at hR
      try dsimp only at hR
      refine GX.callp (r := .bool c35) rfl rfl rfl (f34_ok x0.Seq 1 65535 _ hc35) rfl rfl ?_
      refine GX.pure (v' := .bool c35) rfl rfl rfl rfl rfl ?_
      rcases bool_two (c35) with hb3 | hb3
      · rw [hb3]; try simp only [hb3, cond_true, cond_false, Bool.true_and, Bool.false_and, Bool.true_or, Bool.false_or, Bool.not_true, Bool.not_false] at hR
        refine GX.skip rfl rfl ?_
        refine GX.pure (v' := .bool false) rfl rfl rfl rfl rfl ?_
        refine GX.pure (v' := .bool false) rfl rfl rfl rfl rfl ?_
        refine GX.skip rfl rfl ?_
        refine GX.pure (v' := .bool false) rfl rfl rfl rfl rfl ?_
        refine GX.pure (v' := .bool false) rfl rfl rfl rfl rfl ?_
        refine GX.skip rfl rfl ?_
        refine GX.skip rfl rfl ?_
        refine GX.skip rfl rfl ?_
        refine GX.pure (v' := .bool false) rfl rfl rfl rfl rfl ?_
        refine GX.pure (v' := .bool false) rfl rfl rfl rfl rfl ?_
        refine GX.done ?_
        refine WK.ret ?_
        subst hR
        exact RetQ.fr [] (.inr rfl) rfl rfl rfl rfl
      · rw [hb3]; try simp only [hb3, cond_true, cond_false, Bool.true_and, Bool.false_and, Bool.true_or, Bool.false_or, Bool.not_true, Bool.not_false] at hR
        refine GX.pure (v' := .bool false) rfl rfl rfl rfl rfl ?_
        refine GX.pure (v' := .bool false) rfl rfl rfl rfl rfl ?_
        refine GX.pure (v' := .bool false) rfl rfl rfl rfl rfl ?_
        refine GX.skip rfl rfl ?_
        refine GX.pure (v' := .bool false) rfl rfl rfl rfl rfl ?_
        refine GX.pure (v' := .bool false) rfl rfl rfl rfl rfl ?_
        refine GX.skip rfl rfl ?_
        refine GX.skip rfl rfl ?_
        refine GX.skip rfl rfl ?_
        refine GX.pure (v' := .bool false) rfl rfl rfl rfl rfl ?_
        refine GX.pure (v' := .bool false) rfl rfl rfl rfl rfl ?_
        refine GX.done ?_
        refine WK.ret ?_
        subst hR
        exact RetQ.fr [] (.inr rfl) rfl rfl rfl rfl
    · rw [hb2]; try simp only [hb2, cond_true, cond_false, Bool.true_and, Bool.false_and, Bool.true_or, Bool.false_or, Bool.not_true, Bool.not_false] at hR
      refine GX.pure (v' := .ptr 0 8) rfl rfl rfl rfl rfl ?_
      refine GX.pure (v' := .int .i64 x0.SPlus) rfl rfl rfl rfl rfl ?_
      generalize hc26 : F34_rmap_isIn x0.SPlus 0 16777215 = c26 at hR
      try dsimp only at hR
      refine GX.callp (r := .bool c26) rfl rfl rfl (f34_ok x0.SPlus 0 16777215 _ hc26) rfl rfl ?_
      refine GX.pure (v' := .bool c26) rfl rfl rfl rfl rfl ?_
      refine GX.pure (v' := .bool c26) rfl rfl rfl rfl rfl ?_
      rcases bool_two (c26) with hb4 | hb4
      · rw [hb4]; try simp only [hb4, cond_true, cond_false, Bool.true_and, Bool.false_and, Bool.true_or, Bool.false_or, Bool.not_true, Bool.not_false] at hR
        refine GX.skip rfl rfl ?_
        refine GX.skip rfl rfl ?_
        refine GX.skip rfl rfl ?_
        refine GX.pure (v' := .bool false) rfl rfl rfl rfl rfl ?_
        refine GX.pure (v' := .bool false) rfl rfl rfl rfl rfl ?_
        refine GX.done ?_
        refine WK.seq ?_
        refine WK.regx mixed ?_
        refine GX.pure (v' := .ptr 0 0) rfl rfl rfl rfl rfl ?_
        refine GX.pure (v' := .int .i64 x0.Seq) rfl rfl rfl rfl rfl ?_
        generalize hc35 : F34_rmap_isIn x0.Seq 1 65535 = c35 at hR
        try dsimp only at hR
        refine GX.callp (r := .bool c35) rfl rfl rfl (f34_ok x0.Seq 1 65535 _ hc35) rfl rfl ?_
        refine GX.pure (v' := .bool c35) rfl rfl rfl rfl rfl ?_
        rcases bool_two (c35) with hb5 | hb5
        · rw [hb5]; try simp only [hb5, cond_true, cond_false, Bool.true_and, Bool.false_and, Bool.true_or, Bool.false_or, Bool.not_true, Bool.not_false] at hR
          refine GX.skip rfl rfl ?_
          refine GX.pure (v' := .bool false) rfl rfl rfl rfl rfl ?_
          refine GX.pure (v' := .bool false) rfl rfl rfl rfl rfl ?_
          refine GX.skip rfl rfl ?_
          refine GX.pure (v' := .bool false) rfl rfl rfl rfl rfl ?_
          refine GX.pure (v' := .bool false) rfl rfl rfl rfl rfl ?_
          refine GX.skip rfl rfl ?_
          refine GX.skip rfl rfl ?_
          refine GX.skip rfl rfl ?_
          refine GX.pure (v' := .bool false) rfl rfl rfl rfl rfl ?_
          refine GX.pure (v' := .bool false) rfl rfl rfl rfl rfl ?_
          refine GX.done ?_
          refine WK.ret ?_
          subst hR
          exact RetQ.fr [] (.inr rfl) rfl rfl rfl rfl
        · rw [hb5]; try simp only [hb5, cond_true, cond_false, Bool.true_and, Bool.false_and, Bool.true_or, Bool.false_or, Bool.not_true, Bool.not_false] at hR
          refine GX.pure (v' := .bool false) rfl rfl rfl rfl rfl ?_
          refine GX.pure (v' := .bool false) rfl rfl rfl rfl rfl ?_
          refine GX.pure (v' := .bool false) rfl rfl rfl rfl rfl ?_
          refine GX.skip rfl rfl ?_
          refine GX.pure (v' := .bool false) rfl rfl rfl rfl rfl ?_
          refine GX.pure (v' := .bool false) rfl rfl rfl rfl rfl ?_
          refine GX.skip rfl rfl ?_
          refine GX.skip rfl rfl ?_
          refine GX.skip rfl rfl ?_
          refine GX.pure (v' := .bool false) rfl rfl rfl rfl rfl ?_
          refine GX.pure (v' := .bool false) rfl rfl rfl rfl rfl ?_
          refine GX.done ?_
          refine WK.ret ?_
          subst hR
          exact RetQ.fr [] (.inr rfl) rfl rfl rfl rfl
      · rw [hb4]; try simp only [hb4, cond_true, cond_false, Bool.true_and, Bool.false_and, Bool.true_or, Bool.false_or, Bool.not_true, Bool.not_false] at hR
        refine GX.pure (v' := .ptr 0 9) rfl rfl rfl rfl rfl ?_
        refine GX.pure (v' := .int .i64 x0.SKind) rfl rfl rfl rfl rfl ?_
        generalize hc31 : F34_rmap_isIn x0.SKind (-1) 9 = c31 at hR
        try dsimp only at hR
        refine GX.callp (r := .bool c31) rfl rfl rfl (f34_ok x0.SKind (-1) 9 _ hc31) rfl rfl ?_
        refine GX.pure (v' := .bool c31) rfl rfl rfl rfl rfl ?_
        refine GX.pure (v' := .bool c31) rfl rfl rfl rfl rfl ?_
        refine GX.done ?_
        refine WK.seq ?_
        refine WK.regx mixed ?_
        refine GX.pure (v' := .ptr 0 0) rfl rfl rfl rfl rfl ?_
        refine GX.pure (v' := .int .i64 x0.Seq) rfl rfl rfl rfl rfl ?_
        generalize hc35 : F34_rmap_isIn x0.Seq 1 65535 = c35 at hR
        try dsimp only at hR
        refine GX.callp (r := .bool c35) rfl rfl rfl (f34_ok x0.Seq 1 65535 _ hc35) rfl rfl ?_
        refine GX.pure (v' := .bool c35) rfl rfl rfl rfl rfl ?_
        rcases bool_two (c35) with hb6 | hb6
        · rw [hb6]; try simp only [hb6, cond_true, cond_false, Bool.true_and, Bool.false_and, Bool.true_or, Bool.false_or, Bool.not_true, Bool.not_false] at hR
          refine GX.skip rfl rfl ?_
          refine GX.pure (v' := .bool false) rfl rfl rfl rfl rfl ?_
          refine GX.pure (v' := .bool false) rfl rfl rfl rfl rfl ?_
          refine GX.skip rfl rfl ?_
          refine GX.pure (v' := .bool false) rfl rfl rfl rfl rfl ?_
          refine GX.pure (v' := .bool false) rfl rfl rfl rfl rfl ?_
          refine GX.skip rfl rfl ?_
          refine GX.skip rfl rfl ?_
          refine GX.skip rfl rfl ?_
          refine GX.pure (v' := .bool false) rfl rfl rfl rfl rfl ?_
          refine GX.pure (v' := .bool false) rfl rfl rfl rfl rfl ?_
          refine GX.done ?_
          refine WK.ret ?_
          subst hR
          exact RetQ.fr [] (.inr rfl) rfl rfl rfl rfl
        · rw [hb6]; try simp only [hb6, cond_true, cond_false, Bool.true_and, Bool.false_and, Bool.true_or, Bool.false_or, Bool.not_true, Bool.not_false] at hR
          refine GX.pure (v' := .bool false) rfl rfl rfl rfl rfl ?_
          refine GX.pure (v' := .bool false) rfl rfl rfl rfl rfl ?_
          refine GX.pure (v' := .bool false) rfl rfl rfl rfl rfl ?_
          refine GX.skip rfl rfl ?_
          refine GX.pure (v' := .bool false) rfl rfl rfl rfl rfl ?_
          refine GX.pure (v' := .bool false) rfl rfl rfl rfl rfl ?_
          refine GX.skip rfl rfl ?_
          refine GX.skip rfl rfl ?_
          refine GX.skip rfl rfl ?_
          refine GX.pure (v' := .bool false) rfl rfl rfl rfl rfl ?_
          refine GX.pure (v' := .bool false) rfl rfl rfl rfl rfl ?_
          refine GX.done ?_
          refine WK.ret ?_
          subst hR
          exact RetQ.fr [] (.inr rfl) rfl rfl rfl rfl
  · rw [hb1]; try simp only [hb1, cond_true, cond_false, Bool.true_and, Bool.false_and, Bool.true_or, Bool.false_or, Bool.not_true, Bool.not_false] at hR
    refine GX.pure (v' := .ptr 0 4) rfl rfl rfl rfl rfl ?_
    refine GX.pure (v' := .int .i64 x0.MLow) rfl rfl rfl rfl rfl ?_
    refine GX.pure (v' := .ptr 0 5) rfl rfl rfl rfl rfl ?_
    refine GX.pure (v' := .int .i64 x0.MHigh) rfl rfl rfl rfl rfl ?_
    generalize hc13 : F34_rmap_isIn x0.MLow 0 x0.MHigh = c13 at hR
    try dsimp only at hR
    refine GX.callp (r := .bool c13) rfl rfl rfl (f34_ok x0.MLow 0 x0.MHigh _ hc13) rfl rfl ?_
    refine GX.pure (v' := .bool c13) rfl rfl rfl rfl rfl ?_
    refine GX.pure (v' := .bool c13) rfl rfl rfl rfl rfl ?_
    rcases bool_two (c13) with hb7 | hb7
    · rw [hb7]; try simp only [hb7, cond_true, cond_false, Bool.true_and, Bool.false_and, Bool.true_or, Bool.false_or, Bool.not_true, Bool.not_false] at hR
      refine GX.skip rfl rfl ?_
      refine GX.skip rfl rfl ?_
      refine GX.skip rfl rfl ?_
      refine GX.pure (v' := .bool false) rfl rfl rfl rfl rfl ?_
      refine GX.pure (v' := .bool false) rfl rfl rfl rfl rfl ?_
      refine GX.done ?_
      refine WK.seq ?_
      refine WK.regx mixed ?_
      refine GX.pure (v' := .ptr 0 7) rfl rfl rfl rfl rfl ?_
      refine GX.pure (v' := .int .i64 x0.SCost) rfl rfl rfl rfl rfl ?_
      generalize hc22 : F34_rmap_isIn x0.SCost (-1) 16777215 = c22 at hR
      try dsimp only at hR
      refine GX.callp (r := .bool c22) rfl rfl rfl (f34_ok x0.SCost (-1) 16777215 _ hc22) rfl rfl ?_
      refine GX.pure (v' := .bool c22) rfl rfl rfl rfl rfl ?_
      rcases bool_two (c22) with hb8 | hb8
      · rw [hb8]; try simp only [hb8, cond_true, cond_false, Bool.true_and, Bool.false_and, Bool.true_or, Bool.false_or, Bool.not_true, Bool.not_false] at hR
        refine GX.skip rfl rfl ?_
        refine GX.skip rfl rfl ?_
        refine GX.skip rfl rfl ?_
        refine GX.pure (v' := .bool false) rfl rfl rfl rfl rfl ?_
        refine GX.pure (v' := .bool false) rfl rfl rfl rfl rfl ?_
        refine GX.skip rfl rfl ?_
        refine GX.skip rfl rfl ?_
        refine GX.skip rfl rfl ?_
        refine GX.pure (v' := .bool false) rfl rfl rfl rfl rfl ?_
        refine GX.pure (v' := .bool false) rfl rfl rfl rfl rfl ?_
        refine GX.done ?_
        refine WK.seq ?_
        refine WK.regx mixed ?_
        refine GX.pure (v' := .ptr 0 0) rfl rfl rfl rfl rfl ?_
        refine GX.pure (v' := .int .i64 x0.Seq) rfl rfl rfl rfl rfl ?_
        generalize hc35 : F34_rmap_isIn x0.Seq 1 65535 = c35 at hR
        try dsimp only at hR
        refine GX.callp (r := .bool c35) rfl rfl rfl (f34_ok x0.Seq 1 65535 _ hc35) rfl rfl ?_
        refine GX.pure (v' := .bool c35) rfl rfl rfl rfl rfl ?_
        rcases bool_two (c35) with hb9 | hb9
        · rw [hb9]; try simp only [hb9, cond_true, cond_false, Bool.true_and, Bool.false_and, Bool.true_or, Bool.false_or, Bool.not_true, Bool.not_false] at hR
          refine GX.skip rfl rfl ?_
          refine GX.pure (v' := .bool false) rfl rfl rfl rfl rfl ?_
          refine GX.pure (v' := .bool false) rfl rfl rfl rfl rfl ?_
          refine GX.skip rfl rfl ?_
          refine GX.pure (v' := .bool false) rfl rfl rfl rfl rfl ?_
          refine GX.pure (v' := .bool false) rfl rfl rfl rfl rfl ?_
          refine GX.skip rfl rfl ?_
          refine GX.skip rfl rfl ?_
          refine GX.skip rfl rfl ?_
          refine GX.pure (v' := .bool false) rfl rfl rfl rfl rfl ?_
          refine GX.pure (v' := .bool false) rfl rfl rfl rfl rfl ?_
          refine GX.done ?_
          refine WK.ret ?_
          subst hR
          exact RetQ.fr [] (.inr rfl) rfl rfl rfl rfl
        · rw [hb9]; try simp only [hb9, cond_true, cond_false, Bool.true_and, Bool.false_and, Bool.true_or, Bool.false_or, Bool.not_true, Bool.not_false] at hR
          refine GX.pure (v' := .bool false) rfl rfl rfl rfl rfl ?_
          refine GX.pure (v' := .bool false) rfl rfl rfl rfl rfl ?_
          refine GX.pure (v' := .bool false) rfl rfl rfl rfl rfl ?_
          refine GX.skip rfl rfl ?_
          refine GX.pure (v' := .bool false) rfl rfl rfl rfl rfl ?_
          refine GX.pure (v' := .bool false) rfl rfl rfl rfl rfl ?_
          refine GX.skip rfl rfl ?_
          refine GX.skip rfl rfl ?_
          refine GX.skip rfl rfl ?_
          refine GX.pure (v' := .bool false) rfl rfl rfl rfl rfl ?_
          refine GX.pure (v' := .bool false) rfl rfl rfl rfl rfl ?_
          refine GX.done ?_
          refine WK.ret ?_
          subst hR
          exact RetQ.fr [] (.inr rfl) rfl rfl rfl rfl
      · rw [hb8]; try simp only [hb8, cond_true, cond_false, Bool.true_and, Bool.false_and, Bool.true_or, Bool.false_or, Bool.not_true, Bool.not_false] at hR
        refine GX.pure (v' := .ptr 0 8) rfl rfl rfl rfl rfl ?_
        refine GX.pure (v' := .int .i64 x0.SPlus) rfl rfl rfl rfl rfl ?_
        generalize hc26 : F34_rmap_isIn x0.SPlus 0 16777215 = c26 at hR
        try dsimp only at hR
        refine GX.callp (r := .bool c26) rfl rfl rfl (f34_ok x0.SPlus 0 16777215 _ hc26) rfl rfl ?_
        refine GX.pure (v' := .bool c26) rfl rfl rfl rfl rfl ?_
        refine GX.pure (v' := .bool c26) rfl rfl rfl rfl rfl ?_
        rcases bool_two (c26) with hb10 | hb10
        · rw [hb10]; try simp only [hb10, cond_true, cond_false, Bool.true_and, Bool.false_and, Bool.true_or, Bool.false_or, Bool.not_true, Bool.not_false] at hR
          refine GX.skip rfl rfl ?_
          refine GX.skip rfl rfl ?_
          refine GX.skip rfl rfl ?_
          refine GX.pure (v' := .bool false) rfl rfl rfl rfl rfl ?_
          refine GX.pure (v' := .bool false) rfl rfl rfl rfl rfl ?_
          refine GX.done ?_
          refine WK.seq ?_
          refine WK.regx mixed ?_
          refine GX.pure (v' := .ptr 0 0) rfl rfl rfl rfl rfl ?_
          refine GX.pure (v' := .int .i64 x0.Seq) rfl rfl rfl rfl rfl ?_
          generalize hc35 : F34_rmap_isIn x0.Seq 1 65535 = c35 at hR
          try dsimp only at hR
          refine GX.callp (r := .bool c35) rfl rfl rfl (f34_ok x0.Seq 1 65535 _ hc35) rfl rfl ?_
          refine GX.pure (v' := .bool c35) rfl rfl rfl rfl rfl ?_
          rcases bool_two (c35) with hb11 | hb11
          · rw [hb11]; try simp only [hb11, cond_true, cond_false, Bool.true_and, Bool.false_and, Bool.true_or, Bool.false_or, Bool.not_true, Bool.not_false] at hR
            refine GX.skip rfl rfl ?_
            refine GX.pure (v' := .bool false) rfl rfl rfl rfl rfl ?_
            refine GX.pure (v' := .bool false) rfl rfl rfl rfl rfl ?_
            refine GX.skip rfl rfl ?_
            refine GX.pure (v' := .bool false) rfl rfl rfl rfl rfl ?_
            refine GX.pure (v' := .bool false) rfl rfl rfl rfl rfl ?_
            refine GX.skip rfl rfl ?_
            refine GX.skip rfl rfl ?_
            refine GX.skip rfl rfl ?_
            refine GX.pure (v' := .bool false) rfl rfl rfl rfl rfl ?_
            refine GX.pure (v' := .bool false) rfl rfl rfl rfl rfl ?_
            refine GX.done ?_
            refine WK.ret ?_
            subst hR
            exact RetQ.fr [] (.inr rfl) rfl rfl rfl rfl
          · rw [hb11]; try simp only [hb11, cond_true, cond_false, Bool.true_and, Bool.false_and, Bool.true_or, Bool.false_or, Bool.not_true, Bool.not_false] at hR
            refine GX.pure (v' := .bool false) rfl rfl rfl rfl rfl ?_
            refine GX.pure (v' := .bool false) rfl rfl rfl rfl rfl ?_
            refine GX.pure (v' := .bool false) rfl rfl rfl rfl rfl ?_
            refine GX.skip rfl rfl ?_
            refine GX.pure (v' := .bool false) rfl rfl rfl rfl rfl ?_
            refine GX.pure (v' := .bool false) rfl rfl rfl rfl rfl ?_
            refine GX.skip rfl rfl ?_
            refine GX.skip rfl rfl ?_
            refine GX.skip rfl rfl ?_
            refine GX.pure (v' := .bool false) rfl rfl rfl rfl rfl ?_
            refine GX.pure (v' := .bool false) rfl rfl rfl rfl rfl ?_
            refine GX.done ?_
            refine WK.ret ?_
            subst hR
            exact RetQ.fr [] (.inr rfl) rfl rfl rfl rfl
        · rw [hb10]; try simp only [hb10, cond_true, cond_false, Bool.true_and, Bool.false_and, Bool.true_or, Bool.false_or, Bool.not_true, Bool.not_false] at hR
          refine GX.pure (v' := .ptr 0 9) rfl rfl rfl rfl rfl ?_
          refine GX.pure (v' := .int .i64 x0.SKind) rfl rfl rfl rfl rfl ?_
          generalize hc31 : F34_rmap_isIn x0.SKind (-1) 9 = c31 at hR
          try dsimp only at hR
          refine GX.callp (r := .bool c31) rfl rfl rfl (f34_ok x0.SKind (-1) 9 _ hc31) rfl rfl ?_
          refine GX.pure (v' := .bool c31) rfl rfl rfl rfl rfl ?_
          refine GX.pure (v' := .bool c31) rfl rfl rfl rfl rfl ?_
          refine GX.done ?_
          refine WK.seq ?_
          refine WK.regx mixed ?_
          refine GX.pure (v' := .ptr 0 0) rfl rfl rfl rfl rfl ?_
          refine GX.pure (v' := .int .i64 x0.Seq) rfl rfl rfl rfl rfl ?_
          generalize hc35 : F34_rmap_isIn x0.Seq 1 65535 = c35 at hR
          try dsimp only at hR
          refine GX.callp (r := .bool c35) rfl rfl rfl (f34_ok x0.Seq 1 65535 _ hc35) rfl rfl ?_
          refine GX.pure (v' := .bool c35) rfl rfl rfl rfl rfl ?_
          rcases bool_two (c35) with hb12 | hb12
          · rw [hb12]; try simp only [hb12, cond_true, cond_false, Bool.true_and, Bool.false_and, Bool.true_or, Bool.false_or, Bool.not_true, Bool.not_false] at hR
            refine GX.skip rfl rfl ?_
            refine GX.pure (v' := .bool false) rfl rfl rfl rfl rfl ?_
            refine GX.pure (v' := .bool false) rfl rfl rfl rfl rfl ?_
            refine GX.skip rfl rfl ?_
            refine GX.pure (v' := .bool false) rfl rfl rfl rfl rfl ?_
            refine GX.pure (v' := .bool false) rfl rfl rfl rfl rfl ?_
            refine GX.skip rfl rfl ?_
            refine GX.skip rfl rfl ?_
            refine GX.skip rfl rfl ?_
            refine GX.pure (v' := .bool false) rfl rfl rfl rfl rfl ?_
            refine GX.pure (v' := .bool false) rfl rfl rfl rfl rfl ?_
            refine GX.done ?_
            refine WK.ret ?_
            subst hR
            exact RetQ.fr [] (.inr rfl) rfl rfl rfl rfl
          · rw [hb12]; try simp only [hb12, cond_true, cond_false, Bool.true_and, Bool.false_and, Bool.true_or, Bool.false_or, Bool.not_true, Bool.not_false] at hR
            refine GX.pure (v' := .bool false) rfl rfl rfl rfl rfl ?_
            refine GX.pure (v' := .bool false) rfl rfl rfl rfl rfl ?_
            refine GX.pure (v' := .bool false) rfl rfl rfl rfl rfl ?_
            refine GX.skip rfl rfl ?_
            refine GX.pure (v' := .bool false) rfl rfl rfl rfl rfl ?_
            refine GX.pure (v' := .bool false) rfl rfl rfl rfl rfl ?_
            refine GX.skip rfl rfl ?_
            refine GX.skip rfl rfl ?_
            refine GX.skip rfl rfl ?_
            refine GX.pure (v' := .bool false) rfl rfl rfl rfl rfl ?_
            refine GX.pure (v' := .bool false) rfl rfl rfl rfl rfl ?_
            refine GX.done ?_
            refine WK.ret ?_
            subst hR
            exact RetQ.fr [] (.inr rfl) rfl rfl rfl rfl
    · rw [hb7]; try simp only [hb7, cond_true, cond_false, Bool.true_and, Bool.false_and, Bool.true_or, Bool.false_or, Bool.not_true, Bool.not_false] at hR
      refine GX.pure (v' := .ptr 0 5) rfl rfl rfl rfl rfl ?_
      refine GX.pure (v' := .int .i64 x0.MHigh) rfl rfl rfl rfl rfl ?_
      refine GX.pure (v' := .bool (decide (x0.MHigh ≤ 16777215))) rfl rfl rfl rfl rfl ?_
      refine GX.pure (v' := .bool (decide (x0.MHigh ≤ 16777215))) rfl rfl rfl rfl rfl ?_
      refine GX.pure (v' := .bool (decide (x0.MHigh ≤ 16777215))) rfl rfl rfl rfl rfl ?_
      refine GX.done ?_
      refine WK.seq ?_
      refine WK.regx mixed ?_
      refine GX.pure (v' := .ptr 0 7) rfl rfl rfl rfl rfl ?_
      refine GX.pure (v' := .int .i64 x0.SCost) rfl rfl rfl rfl rfl ?_
      generalize hc22 : F34_rmap_isIn x0.SCost (-1) 16777215 = c22 at hR
      try dsimp only at hR
      refine GX.callp (r := .bool c22) rfl rfl rfl (f34_ok x0.SCost (-1) 16777215 _ hc22) rfl rfl ?_
      refine GX.pure (v' := .bool c22) rfl rfl rfl rfl rfl ?_
      rcases bool_two (c22) with hb13 | hb13
      · rw [hb13]; try simp only [hb13, cond_true, cond_false, Bool.true_and, Bool.false_and, Bool.true_or, Bool.false_or, Bool.not_true, Bool.not_false] at hR
        refine GX.skip rfl rfl ?_
        refine GX.skip rfl rfl ?_
        refine GX.skip rfl rfl ?_
        refine GX.pure (v' := .bool false) rfl rfl rfl rfl rfl ?_
        refine GX.pure (v' := .bool false) rfl rfl rfl rfl rfl ?_
        refine GX.skip rfl rfl ?_
        refine GX.skip rfl rfl ?_
        refine GX.skip rfl rfl ?_
        refine GX.pure (v' := .bool false) rfl rfl rfl rfl rfl ?_
        refine GX.pure (v' := .bool false) rfl rfl rfl rfl rfl ?_
        refine GX.done ?_
        refine WK.seq ?_
        refine WK.regx mixed ?_
        refine GX.pure (v' := .ptr 0 0) rfl rfl rfl rfl rfl ?_
        refine GX.pure (v' := .int .i64 x0.Seq) rfl rfl rfl rfl rfl ?_
        generalize hc35 : F34_rmap_isIn x0.Seq 1 65535 = c35 at hR
        try dsimp only at hR
        refine GX.callp (r := .bool c35) rfl rfl rfl (f34_ok x0.Seq 1 65535 _ hc35) rfl rfl ?_
        refine GX.pure (v' := .bool c35) rfl rfl rfl rfl rfl ?_
        rcases bool_two (c35) with hb14 | hb14
        · rw [hb14]; try simp only [hb14, cond_true, cond_false, Bool.true_and, Bool.false_and, Bool.true_or, Bool.false_or, Bool.not_true, Bool.not_false] at hR
          refine GX.skip rfl rfl ?_
          refine GX.pure (v' := .bool false) rfl rfl rfl rfl rfl ?_
          refine GX.pure (v' := .bool false) rfl rfl rfl rfl rfl ?_
          refine GX.skip rfl rfl ?_
          refine GX.pure (v' := .bool false) rfl rfl rfl rfl rfl ?_
          refine GX.pure (v' := .bool false) rfl rfl rfl rfl rfl ?_
          refine GX.skip rfl rfl ?_
          refine GX.skip rfl rfl ?_
          refine GX.skip rfl rfl ?_
          refine GX.pure (v' := .bool false) rfl rfl rfl rfl rfl ?_
          refine GX.pure (v' := .bool false) rfl rfl rfl rfl rfl ?_
          refine GX.done ?_
          refine WK.ret ?_
          subst hR
          exact RetQ.fr [] (.inr rfl) rfl rfl rfl rfl
        · rw [hb14]; try simp only [hb14, cond_true, cond_false, Bool.true_and, Bool.false_and, Bool.true_or, Bool.false_or, Bool.not_true, Bool.not_false] at hR
          refine GX.pure (v' := .bool (decide (x0.MHigh ≤ 16777215))) rfl rfl rfl rfl rfl ?_
          refine GX.pure (v' := .bool (decide (x0.MHigh ≤ 16777215))) rfl rfl rfl rfl rfl ?_
          refine GX.pure (v' := .bool (decide (x0.MHigh ≤ 16777215))) rfl rfl rfl rfl rfl ?_
          rcases bool_two (decide (x0.MHigh ≤ 16777215)) with hb15 | hb15
          · rw [hb15]; try simp only [hb15, cond_true, cond_false, Bool.true_and, Bool.false_and, Bool.true_or, Bool.false_or, Bool.not_true, Bool.not_false] at hR
            refine GX.skip rfl rfl ?_
            refine GX.pure (v' := .bool false) rfl rfl rfl rfl rfl ?_
            refine GX.pure (v' := .bool false) rfl rfl rfl rfl rfl ?_
            refine GX.skip rfl rfl ?_
            refine GX.skip rfl rfl ?_
            refine GX.skip rfl rfl ?_
            refine GX.pure (v' := .bool false) rfl rfl rfl rfl rfl ?_
            refine GX.pure (v' := .bool false) rfl rfl rfl rfl rfl ?_
            refine GX.done ?_
            refine WK.ret ?_
            subst hR
            exact RetQ.fr [] (.inr rfl) rfl rfl rfl rfl
          · rw [hb15]; try simp only [hb15, cond_true, cond_false, Bool.true_and, Bool.false_and, Bool.true_or, Bool.false_or, Bool.not_true, Bool.not_false] at hR
            refine GX.pure (v' := .bool false) rfl rfl rfl rfl rfl ?_
            refine GX.pure (v' := .bool false) rfl rfl rfl rfl rfl ?_
            refine GX.pure (v' := .bool false) rfl rfl rfl rfl rfl ?_
            refine GX.skip rfl rfl ?_
            refine GX.skip rfl rfl ?_
            refine GX.skip rfl rfl ?_
            refine GX.pure (v' := .bool false) rfl rfl rfl rfl rfl ?_
            refine GX.pure (v' := .bool false) rfl rfl rfl rfl rfl ?_
            refine GX.done ?_
            refine WK.ret ?_
            subst hR
            exact RetQ.fr [] (.inr rfl) rfl rfl rfl rfl
      · rw [hb13]; try simp only [hb13, cond_true, cond_false, Bool.true_and, Bool.false_and, Bool.true_or, Bool.false_or, Bool.not_true, Bool.not_false] at hR
        refine GX.pure (v' := .ptr 0 8) rfl rfl rfl rfl rfl ?_
        refine GX.pure (v' := .int .i64 x0.SPlus) rfl rfl rfl rfl rfl ?_
        generalize hc26 : F34_rmap_isIn x0.SPlus 0 16777215 = c26 at hR
        try dsimp only at hR
        refine GX.callp (r := .bool c26) rfl rfl rfl (f34_ok x0.SPlus 0 16777215 _ hc26) rfl rfl ?_
        refine GX.pure (v' := .bool c26) rfl rfl rfl rfl rfl ?_
        refine GX.pure (v' := .bool c26) rfl rfl rfl rfl rfl ?_
        rcases bool_two (c26) with hb16 | hb16
        · rw [hb16]; try simp only [hb16, cond_true, cond_false, Bool.true_and, Bool.false_and, Bool.true_or, Bool.false_or, Bool.not_true, Bool.not_false] at hR
          refine GX.skip rfl rfl ?_
          refine GX.skip rfl rfl ?_
          refine GX.skip rfl rfl ?_
          refine GX.pure (v' := .bool false) rfl rfl rfl rfl rfl ?_
          refine GX.pure (v' := .bool false) rfl rfl rfl rfl rfl ?_
          refine GX.done ?_
          refine WK.seq ?_
          refine WK.regx mixed ?_
          refine GX.pure (v' := .ptr 0 0) rfl rfl rfl rfl rfl ?_
          refine GX.pure (v' := .int .i64 x0.Seq) rfl rfl rfl rfl rfl ?_
          generalize hc35 : F34_rmap_isIn x0.Seq 1 65535 = c35 at hR
          try dsimp only at hR
          refine GX.callp (r := .bool c35) rfl rfl rfl (f34_ok x0.Seq 1 65535 _ hc35) rfl rfl ?_
          refine GX.pure (v' := .bool c35) rfl rfl rfl rfl rfl ?_
          rcases bool_two (c35) with hb17 | hb17
          · rw [hb17]; try simp only [hb17, cond_true, cond_false, Bool.true_and, Bool.false_and, Bool.true_or, Bool.false_or, Bool.not_true, Bool.not_false] at hR
            refine GX.skip rfl rfl ?_
            refine GX.pure (v' := .bool false) rfl rfl rfl rfl rfl ?_
            refine GX.pure (v' := .bool false) rfl rfl rfl rfl rfl ?_
            refine GX.skip rfl rfl ?_
            refine GX.pure (v' := .bool false) rfl rfl rfl rfl rfl ?_
            refine GX.pure (v' := .bool false) rfl rfl rfl rfl rfl ?_
            refine GX.skip rfl rfl ?_
            refine GX.skip rfl rfl ?_
            refine GX.skip rfl rfl ?_
            refine GX.pure (v' := .bool false) rfl rfl rfl rfl rfl ?_
            refine GX.pure (v' := .bool false) rfl rfl rfl rfl rfl ?_
            refine GX.done ?_
            refine WK.ret ?_
            subst hR
            exact RetQ.fr [] (.inr rfl) rfl rfl rfl rfl
          · rw [hb17]; try simp only [hb17, cond_true, cond_false, Bool.true_and, Bool.false_and, Bool.true_or, Bool.false_or, Bool.not_true, Bool.not_false] at hR
            refine GX.pure (v' := .bool (decide (x0.MHigh ≤ 16777215))) rfl rfl rfl rfl rfl ?_
            refine GX.pure (v' := .bool (decide (x0.MHigh ≤ 16777215))) rfl rfl rfl rfl rfl ?_
            refine GX.pure (v' := .bool (decide (x0.MHigh ≤ 16777215))) rfl rfl rfl rfl rfl ?_
            rcases bool_two (decide (x0.MHigh ≤ 16777215)) with hb18 | hb18
            · rw [hb18]; try simp only [hb18, cond_true, cond_false, Bool.true_and, Bool.false_and, Bool.true_or, Bool.false_or, Bool.not_true, Bool.not_false] at hR
              refine GX.skip rfl rfl ?_
              refine GX.pure (v' := .bool false) rfl rfl rfl rfl rfl ?_
              refine GX.pure (v' := .bool false) rfl rfl rfl rfl rfl ?_
              refine GX.skip rfl rfl ?_
              refine GX.skip rfl rfl ?_
              refine GX.skip rfl rfl ?_
              refine GX.pure (v' := .bool false) rfl rfl rfl rfl rfl ?_
              refine GX.pure (v' := .bool false) rfl rfl rfl rfl rfl ?_
              refine GX.done ?_
              refine WK.ret ?_
              subst hR
              exact RetQ.fr [] (.inr rfl) rfl rfl rfl rfl
            · rw [hb18]; try simp only [hb18, cond_true, cond_false, Bool.true_and, Bool.false_and, Bool.true_or, Bool.false_or, Bool.not_true, Bool.not_false] at hR
              refine GX.pure (v' := .bool false) rfl rfl rfl rfl rfl ?_
              refine GX.pure (v' := .bool false) rfl rfl rfl rfl rfl ?_
              refine GX.pure (v' := .bool false) rfl rfl rfl rfl rfl ?_
              refine GX.skip rfl rfl ?_
              refine GX.skip rfl rfl ?_
              refine GX.skip rfl rfl ?_
              refine GX.pure (v' := .bool false) rfl rfl rfl rfl rfl ?_
              refine GX.pure (v' := .bool false) rfl rfl rfl rfl rfl ?_
              refine GX.done ?_
              refine WK.ret ?_
              subst hR
              exact RetQ.fr [] (.inr rfl) rfl rfl rfl rfl
        · rw [hb16]; try simp only [hb16, cond_true, cond_false, Bool.true_and, Bool.false_and, Bool.true_or, Bool.false_or, Bool.not_true, Bool.not_false] at hR
          refine GX.pure (v' := .ptr 0 9) rfl rfl rfl rfl rfl ?_
          refine GX.pure (v' := .int .i64 x0.SKind) rfl rfl rfl rfl rfl ?_
          generalize hc31 : F34_rmap_isIn x0.SKind (-1) 9 = c31 at hR
          try dsimp only at hR
          refine GX.callp (r := .bool c31) rfl rfl rfl (f34_ok x0.SKind (-1) 9 _ hc31) rfl rfl ?_
          refine GX.pure (v' := .bool c31) rfl rfl rfl rfl rfl ?_
          refine GX.pure (v' := .bool c31) rfl rfl rfl rfl rfl ?_
          refine GX.done ?_
          refine WK.seq ?_
          refine WK.regx mixed ?_
          refine GX.pure (v' := .ptr 0 0) rfl rfl rfl rfl rfl ?_
          refine GX.pure (v' := .int .i64 x0.Seq) rfl rfl rfl rfl rfl ?_
          generalize hc35 : F34_rmap_isIn x0.Seq 1 65535 = c35 at hR
          try dsimp only at hR
          refine GX.callp (r := .bool c35) rfl rfl rfl (f34_ok x0.Seq 1 65535 _ hc35) rfl rfl ?_
          refine GX.pure (v' := .bool c35) rfl rfl rfl rfl rfl ?_
          rcases bool_two (c35) with hb19 | hb19
          · rw [hb19]; try simp only [hb19, cond_true, cond_false, Bool.true_and, Bool.false_and, Bool.true_or, Bool.false_or, Bool.not_true, Bool.not_false] at hR
            refine GX.skip rfl rfl ?_
            refine GX.pure (v' := .bool false) rfl rfl rfl rfl rfl ?_
            refine GX.pure (v' := .bool false) rfl rfl rfl rfl rfl ?_
            refine GX.skip rfl rfl ?_
            refine GX.pure (v' := .bool false) rfl rfl rfl rfl rfl ?_
            refine GX.pure (v' := .bool false) rfl rfl rfl rfl rfl ?_
            refine GX.skip rfl rfl ?_
            refine GX.skip rfl rfl ?_
            refine GX.skip rfl rfl ?_
            refine GX.pure (v' := .bool false) rfl rfl rfl rfl rfl ?_
            refine GX.pure (v' := .bool false) rfl rfl rfl rfl rfl ?_
            refine GX.done ?_
            refine WK.ret ?_
            subst hR
            exact RetQ.fr [] (.inr rfl) rfl rfl rfl rfl
          · rw [hb19]; try simp only [hb19, cond_true, cond_false, Bool.true_and, Bool.false_and, Bool.true_or, Bool.false_or, Bool.not_true, Bool.not_false] at hR
            refine GX.pure (v' := .bool (decide (x0.MHigh ≤ 16777215))) rfl rfl rfl rfl rfl ?_
            refine GX.pure (v' := .bool (decide (x0.MHigh ≤ 16777215))) rfl rfl rfl rfl rfl ?_
            refine GX.pure (v' := .bool (decide (x0.MHigh ≤ 16777215))) rfl rfl rfl rfl rfl ?_
            rcases bool_two (decide (x0.MHigh ≤ 16777215)) with hb20 | hb20
            · rw [hb20]; try simp only [hb20, cond_true, cond_false, Bool.true_and, Bool.false_and, Bool.true_or, Bool.false_or, Bool.not_true, Bool.not_false] at hR
              refine GX.skip rfl rfl ?_
              refine GX.pure (v' := .bool false) rfl rfl rfl rfl rfl ?_
              refine GX.pure (v' := .bool false) rfl rfl rfl rfl rfl ?_
              refine GX.skip rfl rfl ?_
              refine GX.skip rfl rfl ?_
              refine GX.skip rfl rfl ?_
              refine GX.pure (v' := .bool false) rfl rfl rfl rfl rfl ?_
              refine GX.pure (v' := .bool false) rfl rfl rfl rfl rfl ?_
              refine GX.done ?_
              refine WK.ret ?_
              subst hR
              exact RetQ.fr [] (.inr rfl) rfl rfl rfl rfl
            · rw [hb20]; try simp only [hb20, cond_true, cond_false, Bool.true_and, Bool.false_and, Bool.true_or, Bool.false_or, Bool.not_true, Bool.not_false] at hR
              refine GX.pure (v' := .bool c31) rfl rfl rfl rfl rfl ?_
              refine GX.pure (v' := .bool c31) rfl rfl rfl rfl rfl ?_
              refine GX.pure (v' := .bool c31) rfl rfl rfl rfl rfl ?_
              rcases bool_two (c31) with hb21 | hb21
              · rw [hb21]; try simp only [hb21, cond_true, cond_false, Bool.true_and, Bool.false_and, Bool.true_or, Bool.false_or, Bool.not_true, Bool.not_false] at hR
                refine GX.skip rfl rfl ?_
                refine GX.skip rfl rfl ?_
                refine GX.skip rfl rfl ?_
                refine GX.pure (v' := .bool false) rfl rfl rfl rfl rfl ?_
                refine GX.pure (v' := .bool false) rfl rfl rfl rfl rfl ?_
                refine GX.done ?_
                refine WK.ret ?_
                subst hR
                exact RetQ.fr [] (.inr rfl) rfl rfl rfl rfl
              · rw [hb21]; try simp only [hb21, cond_true, cond_false, Bool.true_and, Bool.false_and, Bool.true_or, Bool.false_or, Bool.not_true, Bool.not_false] at hR
                refine GX.pure (v' := .ptr 0 2) rfl rfl rfl rfl rfl ?_
                refine GX.pure (v' := .ro 6 (x0.Listf.map TRule.c)) rfl rfl rfl rfl rfl ?_
                generalize hc45 : F35_rmap_isList x0.Listf = c45 at hR
                try dsimp only at hR
                refine GX.callp (r := .bool c45) rfl rfl rfl (f35_ok x0.Listf _ hc45) rfl rfl ?_
                refine GX.pure (v' := .bool c45) rfl rfl rfl rfl rfl ?_
                refine GX.pure (v' := .bool c45) rfl rfl rfl rfl rfl ?_
                refine GX.done ?_
                refine WK.ret ?_
                subst hR
                exact RetQ.fr [] (.inr rfl) rfl rfl rfl rfl

theorem f12_ok  (R : Bool) (hR : F12_crossroadslaw08_alive = R) : FnOk Try.prog 12 [] [] 0 (.bool R) [] 0 := by
  refine FnOk.wk i12 rfl rfl ?_
  unfold F12_crossroadslaw08_alive at hR
  change WK _ _ _ [ac12] _ ⟨[], [], 0⟩
  unfold ac12
  refine WK.seq ?_
  refine WK.regx mixed ?_
  refine GX.pure (v' := .bool false) rfl rfl rfl rfl rfl ?_
  refine GX.done ?_
  refine WK.seq ?_
  refine WK.regx mixed ?_
  refine GX.pure (v' := .agg [.int .i64 1, .bool true, .nils, .int .i64 (-1), .int .i64 0, .int .i64 10, .nils, .int .i64 (-1), .int .i64 2, .int .i64 3, .bool true, .int .u32 9]) rfl rfl rfl rfl rfl ?_
  refine GX.step (v' := .ptr 0 0) (heap' := [(0, .box [.int .i64 0, .bool false, .nils, .int .i64 0, .int .i64 0, .int .i64 0, .nils, .int .i64 0, .int .i64 0, .int .i64 0, .bool false, .int .u32 0])]) (next' := 1) rfl rfl rfl rfl rfl rfl rfl ?_
  refine GX.step0 (heap' := [(0, .box [.int .i64 1, .bool true, .nils, .int .i64 (-1), .int .i64 0, .int .i64 10, .nils, .int .i64 (-1), .int .i64 2, .int .i64 3, .bool true, .int .u32 9])]) (next' := 1) rfl rfl rfl rfl rfl ?_
  refine GX.done ?_
  refine WK.seq ?_
  refine WK.drawn mixed ?_
  refine RD.pureW (v' := .agg [.int .i64 1, .bool true, .ro 6 (([] : List TRule).map TRule.c), .int .i64 (-1), .int .i64 0, .int .i64 10, .ro 1 (([] : List Int).map c_u32), .int .i64 (-1), .int .i64 2, .int .i64 3, .bool true, .int .u32 9]) rfl rfl rfl rfl (.agg (.cons .refl (.cons .refl (.cons .nil (.cons .refl (.cons .refl (.cons .refl (.cons .nil .refl)))))))) ?_
  refine RD.step (v' := .own 1 12 0 (([(⟨1, true, ([] : List TRule), (-1), 0, 10, ([] : List Int), (-1), 2, 3, true, 9⟩ : TClause)] : List TClause)).length) (heap' := [(0, .box [.int .i64 1, .bool true, .nils, .int .i64 (-1), .int .i64 0, .int .i64 10, .nils, .int .i64 (-1), .int .i64 2, .int .i64 3, .bool true, .int .u32 9]), (1, .row 12 39 (([(⟨1, true, ([] : List TRule), (-1), 0, 10, ([] : List Int), (-1), 2, 3, true, 9⟩ : TClause)] : List TClause).map TClause.c))]) (next' := 2) rfl rfl rfl rfl rfl rfl rfl ?_
  refine RD.pure (v' := .agg [.int .u32 0, .int .i64 0]) rfl rfl rfl rfl rfl ?_
  refine RD.pure (v' := .agg [.int .u32 0, .int .i64 0, .int .i64 0, .int .i64 5, .int .u32 0]) rfl rfl rfl rfl rfl ?_
  generalize hc14 : F13_rmap_Eval ([(⟨1, true, ([] : List TRule), (-1), 0, 10, ([] : List Int), (-1), 2, 3, true, 9⟩ : TClause)] : List TClause) (⟨(⟨0, 0⟩ : TPrefix), 0, 5, 0⟩ : TRoute) = c14 at hR
  obtain ⟨c14a, c14b, c14c⟩ := c14; try dsimp only at hR
  refine RD.callbp (r := .tup [.agg [.int .u32 c14a.P.A, .int .i64 c14a.P.N, .int .i64 c14a.Kind, .int .i64 c14a.Cost, .int .u32 c14a.Tag], .bool c14b, .int .i64 c14c]) [1] rfl rfl rfl (viewGo_cons (view_rowT rfl rfl) (viewGo_cons rfl viewGo_nil)) (f13_ok ([(⟨1, true, ([] : List TRule), (-1), 0, 10, ([] : List Int), (-1), 2, 3, true, 9⟩ : TClause)] : List TClause) (⟨(⟨0, 0⟩ : TPrefix), 0, 5, 0⟩ : TRoute) _ hc14) rfl rfl ?_
  refine RD.pure (v' := .tup [.agg [.int .u32 c14a.P.A, .int .i64 c14a.P.N, .int .i64 c14a.Kind, .int .i64 c14a.Cost, .int .u32 c14a.Tag], .bool c14b, .int .i64 c14c]) rfl rfl rfl rfl rfl ?_
  refine RD.pure (v' := .agg [.int .u32 c14a.P.A, .int .i64 c14a.P.N, .int .i64 c14a.Kind, .int .i64 c14a.Cost, .int .u32 c14a.Tag]) rfl rfl rfl rfl rfl ?_
  refine RD.pure (v' := .bool c14b) rfl rfl rfl rfl rfl ?_
  refine RD.pure (v' := .int .i64 c14c) rfl rfl rfl rfl rfl ?_
  refine RD.step (v' := .ptr 2 0) (heap' := [(0, .box [.int .i64 1, .bool true, .nils, .int .i64 (-1), .int .i64 0, .int .i64 10, .nils, .int .i64 (-1), .int .i64 2, .int .i64 3, .bool true, .int .u32 9]), (1, .row 12 39 (([(⟨1, true, ([] : List TRule), (-1), 0, 10, ([] : List Int), (-1), 2, 3, true, 9⟩ : TClause)] : List TClause).map TClause.c)), (2, .box [.int .u32 0, .int .i64 0, .int .i64 0, .int .i64 0, .int .u32 0])]) (next' := 3) rfl rfl rfl rfl rfl rfl rfl ?_
  refine RD.step0 (heap' := [(0, .box [.int .i64 1, .bool true, .nils, .int .i64 (-1), .int .i64 0, .int .i64 10, .nils, .int .i64 (-1), .int .i64 2, .int .i64 3, .bool true, .int .u32 9]), (1, .row 12 39 (([(⟨1, true, ([] : List TRule), (-1), 0, 10, ([] : List Int), (-1), 2, 3, true, 9⟩ : TClause)] : List TClause).map TClause.c)), (2, .box (TRoute.c c14a))]) (next' := 3) rfl rfl rfl rfl rfl ?_
  refine RD.pure (v' := .bool c14b) rfl rfl rfl rfl rfl ?_
  refine RD.pure (v' := .int .i64 c14c) rfl rfl rfl rfl rfl ?_
  refine RD.done0 ?_
  refine WK.seq ?_
  refine WK.regx mixed ?_
  refine GX.pure (v' := .agg [.int .u32 0, .int .i64 0, .int .i64 0, .int .i64 0, .int .u32 0]) rfl rfl rfl rfl rfl ?_
  generalize hc20 : F13_rmap_Eval ([] : List TClause) (⟨(⟨0, 0⟩ : TPrefix), 0, 0, 0⟩ : TRoute) = c20 at hR
  obtain ⟨c20a, c20b, c20c⟩ := c20; try dsimp only at hR
  refine GX.callp (r := .tup [.agg [.int .u32 c20a.P.A, .int .i64 c20a.P.N, .int .i64 c20a.Kind, .int .i64 c20a.Cost, .int .u32 c20a.Tag], .bool c20b, .int .i64 c20c]) rfl rfl rfl (FnOk.weak (f13_ok ([] : List TClause) (⟨(⟨0, 0⟩ : TPrefix), 0, 0, 0⟩ : TRoute) _ hc20) (.cons .nil .refl)) rfl rfl ?_
  refine GX.pure (v' := .tup [.agg [.int .u32 c20a.P.A, .int .i64 c20a.P.N, .int .i64 c20a.Kind, .int .i64 c20a.Cost, .int .u32 c20a.Tag], .bool c20b, .int .i64 c20c]) rfl rfl rfl rfl rfl ?_
  refine GX.pure (v' := .agg [.int .u32 c20a.P.A, .int .i64 c20a.P.N, .int .i64 c20a.Kind, .int .i64 c20a.Cost, .int .u32 c20a.Tag]) rfl rfl rfl rfl rfl ?_
  refine GX.pure (v' := .bool c20b) rfl rfl rfl rfl rfl ?_
  refine GX.pure (v' := .int .i64 c20c) rfl rfl rfl rfl rfl ?_
  refine GX.step (v' := .ptr 3 0) (heap' := [(0, .box [.int .i64 1, .bool true, .nils, .int .i64 (-1), .int .i64 0, .int .i64 10, .nils, .int .i64 (-1), .int .i64 2, .int .i64 3, .bool true, .int .u32 9]), (1, .row 12 39 (([(⟨1, true, ([] : List TRule), (-1), 0, 10, ([] : List Int), (-1), 2, 3, true, 9⟩ : TClause)] : List TClause).map TClause.c)), (2, .box (TRoute.c c14a)), (3, .box [.int .u32 0, .int .i64 0, .int .i64 0, .int .i64 0, .int .u32 0])]) (next' := 4) rfl rfl rfl rfl rfl rfl rfl ?_
  refine GX.step0 (heap' := [(0, .box [.int .i64 1, .bool true, .nils, .int .i64 (-1), .int .i64 0, .int .i64 10, .nils, .int .i64 (-1), .int .i64 2, .int .i64 3, .bool true, .int .u32 9]), (1, .row 12 39 (([(⟨1, true, ([] : List TRule), (-1), 0, 10, ([] : List Int), (-1), 2, 3, true, 9⟩ : TClause)] : List TClause).map TClause.c)), (2, .box (TRoute.c c14a)), (3, .box (TRoute.c c20a))]) (next' := 4) rfl rfl rfl rfl rfl ?_
  refine GX.pure (v' := .bool c20b) rfl rfl rfl rfl rfl ?_
  refine GX.pure (v' := .int .i64 c20c) rfl rfl rfl rfl rfl ?_
  refine GX.done ?_
  refine WK.seq ?_
  refine WK.regx mixed ?_
  refine GX.pure (v' := .agg [.int .i64 1, .bool true, .nils, .int .i64 (-1), .int .i64 0, .int .i64 10, .nils, .int .i64 (-1), .int .i64 2, .int .i64 3, .bool true, .int .u32 9]) rfl rfl rfl rfl rfl ?_
  generalize hc25 : F15_rmap_May (⟨1, true, ([] : List TRule), (-1), 0, 10, ([] : List Int), (-1), 2, 3, true, 9⟩ : TClause) = c25 at hR
  try dsimp only at hR
  refine GX.callp (r := .bool c25) rfl rfl rfl (FnOk.weak (f15_ok (⟨1, true, ([] : List TRule), (-1), 0, 10, ([] : List Int), (-1), 2, 3, true, 9⟩ : TClause) _ hc25) (.cons (.agg (.cons .refl (.cons .refl (.cons .nil (.cons .refl (.cons .refl (.cons .refl (.cons .nil .refl)))))))) .refl)) rfl rfl ?_
  refine GX.pure (v' := .bool c25) rfl rfl rfl rfl rfl ?_
  rcases bool_two (c25) with hb1 | hb1
  · rw [hb1]; try simp only [hb1, cond_true, cond_false, Bool.true_and, Bool.false_and, Bool.true_or, Bool.false_or, Bool.not_true, Bool.not_false] at hR
    refine GX.skip rfl rfl ?_
    refine GX.pure (v' := .bool false) rfl rfl rfl rfl rfl ?_
    refine GX.pure (v' := .bool false) rfl rfl rfl rfl rfl ?_
    refine GX.skip rfl rfl ?_
    refine GX.skip rfl rfl ?_
    refine GX.pure (v' := .bool false) rfl rfl rfl rfl rfl ?_
    refine GX.pure (v' := .bool false) rfl rfl rfl rfl rfl ?_
    refine GX.skip rfl rfl ?_
    refine GX.skip rfl rfl ?_
    refine GX.skip rfl rfl ?_
    refine GX.pure (v' := .bool false) rfl rfl rfl rfl rfl ?_
    refine GX.pure (v' := .bool false) rfl rfl rfl rfl rfl ?_
    refine GX.skip rfl rfl ?_
    refine GX.skip rfl rfl ?_
    refine GX.pure (v' := .bool false) rfl rfl rfl rfl rfl ?_
    refine GX.pure (v' := .bool false) rfl rfl rfl rfl rfl ?_
    refine GX.skip rfl rfl ?_
    refine GX.skip rfl rfl ?_
    refine GX.pure (v' := .bool false) rfl rfl rfl rfl rfl ?_
    refine GX.pure (v' := .bool false) rfl rfl rfl rfl rfl ?_
    refine GX.done ?_
    refine WK.ret ?_
    subst hR
    exact RetQ.fr [] (.inr rfl) rfl rfl rfl rfl
  · rw [hb1]; try simp only [hb1, cond_true, cond_false, Bool.true_and, Bool.false_and, Bool.true_or, Bool.false_or, Bool.not_true, Bool.not_false] at hR
    refine GX.pure (v' := .bool c14b) rfl rfl rfl rfl rfl ?_
    refine GX.pure (v' := .bool c14b) rfl rfl rfl rfl rfl ?_
    refine GX.pure (v' := .bool c14b) rfl rfl rfl rfl rfl ?_
    rcases bool_two (c14b) with hb2 | hb2
    · rw [hb2]; try simp only [hb2, cond_true, cond_false, Bool.true_and, Bool.false_and, Bool.true_or, Bool.false_or, Bool.not_true, Bool.not_false] at hR
      refine GX.skip rfl rfl ?_
      refine GX.skip rfl rfl ?_
      refine GX.pure (v' := .bool false) rfl rfl rfl rfl rfl ?_
      refine GX.pure (v' := .bool false) rfl rfl rfl rfl rfl ?_
      refine GX.skip rfl rfl ?_
      refine GX.skip rfl rfl ?_
      refine GX.skip rfl rfl ?_
      refine GX.pure (v' := .bool false) rfl rfl rfl rfl rfl ?_
      refine GX.pure (v' := .bool false) rfl rfl rfl rfl rfl ?_
      refine GX.skip rfl rfl ?_
      refine GX.skip rfl rfl ?_
      refine GX.pure (v' := .bool false) rfl rfl rfl rfl rfl ?_
      refine GX.pure (v' := .bool false) rfl rfl rfl rfl rfl ?_
      refine GX.skip rfl rfl ?_
      refine GX.skip rfl rfl ?_
      refine GX.pure (v' := .bool false) rfl rfl rfl rfl rfl ?_
      refine GX.pure (v' := .bool false) rfl rfl rfl rfl rfl ?_
      refine GX.done ?_
      refine WK.ret ?_
      subst hR
      exact RetQ.fr [] (.inr rfl) rfl rfl rfl rfl
    · rw [hb2]; try simp only [hb2, cond_true, cond_false, Bool.true_and, Bool.false_and, Bool.true_or, Bool.false_or, Bool.not_true, Bool.not_false] at hR
      refine GX.pure (v' := .int .i64 c14c) rfl rfl rfl rfl rfl ?_
      refine GX.pure (v' := .bool (decide (c14c = 1))) rfl rfl rfl rfl rfl ?_
      refine GX.pure (v' := .bool (decide (c14c = 1))) rfl rfl rfl rfl rfl ?_
      refine GX.pure (v' := .bool (decide (c14c = 1))) rfl rfl rfl rfl rfl ?_
      rcases bool_two (decide (c14c = 1)) with hb3 | hb3
      · rw [hb3]; try simp only [hb3, cond_true, cond_false, Bool.true_and, Bool.false_and, Bool.true_or, Bool.false_or, Bool.not_true, Bool.not_false] at hR
        refine GX.skip rfl rfl ?_
        refine GX.skip rfl rfl ?_
        refine GX.skip rfl rfl ?_
        refine GX.pure (v' := .bool false) rfl rfl rfl rfl rfl ?_
        refine GX.pure (v' := .bool false) rfl rfl rfl rfl rfl ?_
        refine GX.skip rfl rfl ?_
        refine GX.skip rfl rfl ?_
        refine GX.pure (v' := .bool false) rfl rfl rfl rfl rfl ?_
        refine GX.pure (v' := .bool false) rfl rfl rfl rfl rfl ?_
        refine GX.skip rfl rfl ?_
        refine GX.skip rfl rfl ?_
        refine GX.pure (v' := .bool false) rfl rfl rfl rfl rfl ?_
        refine GX.pure (v' := .bool false) rfl rfl rfl rfl rfl ?_
        refine GX.done ?_
        refine WK.ret ?_
        subst hR
        exact RetQ.fr [] (.inr rfl) rfl rfl rfl rfl
      · rw [hb3]; try simp only [hb3, cond_true, cond_false, Bool.true_and, Bool.false_and, Bool.true_or, Bool.false_or, Bool.not_true, Bool.not_false] at hR
        refine GX.pure (v' := .agg (TRoute.c c14a)) rfl rfl rfl rfl rfl ?_
        refine GX.pure (v' := .agg [.int .u32 0, .int .i64 0, .int .i64 3, .int .i64 7, .int .u32 9]) rfl rfl rfl rfl rfl ?_
        refine GX.pure (v' := .bool (decide (c14a.P.A = 0) && (decide (c14a.P.N = 0) && (decide (c14a.Kind = 3) && (decide (c14a.Cost = 7) && (decide (c14a.Tag = 9) && true)))))) rfl rfl rfl rfl rfl ?_
        refine GX.pure (v' := .bool (decide (c14a.P.A = 0) && (decide (c14a.P.N = 0) && (decide (c14a.Kind = 3) && (decide (c14a.Cost = 7) && (decide (c14a.Tag = 9) && true)))))) rfl rfl rfl rfl rfl ?_
        refine GX.pure (v' := .bool (decide (c14a.P.A = 0) && (decide (c14a.P.N = 0) && (decide (c14a.Kind = 3) && (decide (c14a.Cost = 7) && (decide (c14a.Tag = 9) && true)))))) rfl rfl rfl rfl rfl ?_
        rcases bool_two ((decide (c14a.P.A = 0) && (decide (c14a.P.N = 0) && (decide (c14a.Kind = 3) && (decide (c14a.Cost = 7) && (decide (c14a.Tag = 9) && true)))))) with hb4 | hb4
        · rw [hb4]; try simp only [hb4, cond_true, cond_false, Bool.true_and, Bool.false_and, Bool.true_or, Bool.false_or, Bool.not_true, Bool.not_false] at hR
          refine GX.skip rfl rfl ?_
          refine GX.skip rfl rfl ?_
          refine GX.pure (v' := .bool false) rfl rfl rfl rfl rfl ?_
          refine GX.pure (v' := .bool false) rfl rfl rfl rfl rfl ?_
          refine GX.skip rfl rfl ?_
          refine GX.skip rfl rfl ?_
          refine GX.pure (v' := .bool false) rfl rfl rfl rfl rfl ?_
          refine GX.pure (v' := .bool false) rfl rfl rfl rfl rfl ?_
          refine GX.done ?_
          refine WK.ret ?_
          subst hR
          exact RetQ.fr [] (.inr rfl) rfl rfl rfl rfl
        · rw [hb4]; try simp only [hb4, cond_true, cond_false, Bool.true_and, Bool.false_and, Bool.true_or, Bool.false_or, Bool.not_true, Bool.not_false] at hR
          refine GX.pure (v' := .bool c20b) rfl rfl rfl rfl rfl ?_
          refine GX.pure (v' := .bool (!c20b)) rfl rfl rfl rfl rfl ?_
          refine GX.pure (v' := .bool (!c20b)) rfl rfl rfl rfl rfl ?_
          refine GX.pure (v' := .bool (!c20b)) rfl rfl rfl rfl rfl ?_
          rcases bool_two (c20b) with hb5 | hb5
          · rw [hb5]; try simp only [hb5, cond_true, cond_false, Bool.true_and, Bool.false_and, Bool.true_or, Bool.false_or, Bool.not_true, Bool.not_false] at hR
            refine GX.pure (v' := .int .i64 c20c) rfl rfl rfl rfl rfl ?_
            refine GX.pure (v' := .bool (decide (c20c = 0))) rfl rfl rfl rfl rfl ?_
            refine GX.pure (v' := .bool (decide (c20c = 0))) rfl rfl rfl rfl rfl ?_
            refine GX.pure (v' := .bool (decide (c20c = 0))) rfl rfl rfl rfl rfl ?_
            refine GX.done ?_
            refine WK.ret ?_
            subst hR
            exact RetQ.fr [] (.inr rfl) rfl rfl rfl rfl
          · rw [hb5]; try simp only [hb5, cond_true, cond_false, Bool.true_and, Bool.false_and, Bool.true_or, Bool.false_or, Bool.not_true, Bool.not_false] at hR
            refine GX.skip rfl rfl ?_
            refine GX.skip rfl rfl ?_
            refine GX.pure (v' := .bool false) rfl rfl rfl rfl rfl ?_
            refine GX.pure (v' := .bool false) rfl rfl rfl rfl rfl ?_
            refine GX.done ?_
            refine WK.ret ?_
            subst hR
            exact RetQ.fr [] (.inr rfl) rfl rfl rfl rfl

end Go.Proofs.Ytagiapphmkdnmaa.Abs
