/- The functions walked: each computes its Lean function (printed by this work's own program gen.py). -/
import Derived.Test.YtagiapphmkdnmaaW7
set_option linter.unusedVariables false
set_option linter.unusedSimpArgs false
set_option maxRecDepth 10000
set_option maxHeartbeats 4000000
namespace Go.Proofs.Ytagiapphmkdnmaa.Abs
open Go

theorem f19_ok (x0 : TClause) (t1 : TRoute) (R : Bool) (hR : F19_crossroadsref08_Matches x0 t1 = R) : FnOk Try.prog 19 [.agg (TClause.c x0), .agg (TRoute.c t1)] [] 0 (.bool R) [] 0 := by
  refine FnOk.wk i19 rfl rfl ?_
  unfold F19_crossroadsref08_Matches at hR
  change WK _ _ _ [ac19] _ ⟨[(0, .agg (TClause.c x0)), (1, .agg (TRoute.c t1))], [], 0⟩
  unfold ac19
  refine WK.seq ?_
  refine WK.regx mixed ?_
  refine GX.step (v' := .ptr 0 0) (heap' := [(0, .box (TClause.c x0))]) (next' := 1) rfl rfl rfl rfl rfl rfl rfl ?_
  refine GX.step (v' := .ptr 1 0) (heap' := [(0, .box (TClause.c x0)), (1, .box (TRoute.c t1))]) (next' := 2) rfl rfl rfl rfl rfl rfl rfl ?_
  refine GX.pure (v' := .bool false) rfl rfl rfl rfl rfl ?_
  refine GX.done ?_
  refine WK.seq ?_
  refine WK.seq ?_
  refine WK.regx mixed ?_
  refine GX.pure (v' := .ptr 0 2) rfl rfl rfl rfl rfl ?_
  refine GX.pure (v' := .ro 6 (x0.Listf.map TRule.c)) rfl rfl rfl rfl rfl ?_
  refine GX.pure (v' := .int .i64 (x0.Listf.length : Int)) rfl rfl rfl rfl (len_map _ _) ?_
  refine GX.pure (v' := .bool (decide (0 < (x0.Listf.length : Int)))) rfl rfl rfl rfl rfl ?_
  refine GX.done ?_
  rcases bool_two (decide (0 < (x0.Listf.length : Int))) with hb1 | hb1
  · rw [hb1]; try simp only [hb1, cond_true, cond_false, Bool.true_and, Bool.false_and, Bool.true_or, Bool.false_or, Bool.not_true, Bool.not_false] at hR
    refine WK.condF rfl ?_
    refine WK.skip ?_
    refine WK.seq ?_
    refine WK.seq ?_
    refine WK.regx mixed ?_
    refine GX.pure (v' := .ptr 0 3) rfl rfl rfl rfl rfl ?_
    refine GX.pure (v' := .int .i64 x0.MKind) rfl rfl rfl rfl rfl ?_
    refine GX.pure (v' := .bool (!decide (x0.MKind = (-1)))) rfl rfl rfl rfl rfl ?_
    refine GX.pure (v' := .bool (!decide (x0.MKind = (-1)))) rfl rfl rfl rfl rfl ?_
    rcases bool_two (decide (x0.MKind = (-1))) with hb2 | hb2
    · rw [hb2]; try simp only [hb2, cond_true, cond_false, Bool.true_and, Bool.false_and, Bool.true_or, Bool.false_or, Bool.not_true, Bool.not_false] at hR
      refine GX.pure (v' := .ptr 0 3) rfl rfl rfl rfl rfl ?_
      refine GX.pure (v' := .int .i64 x0.MKind) rfl rfl rfl rfl rfl ?_
      refine GX.pure (v' := .ptr 1 2) rfl rfl rfl rfl rfl ?_
      refine GX.pure (v' := .int .i64 t1.Kind) rfl rfl rfl rfl rfl ?_
      refine GX.pure (v' := .bool (!decide (x0.MKind = t1.Kind))) rfl rfl rfl rfl rfl ?_
      refine GX.pure (v' := .bool (!decide (x0.MKind = t1.Kind))) rfl rfl rfl rfl rfl ?_
      refine GX.pure (v' := .bool (!decide (x0.MKind = t1.Kind))) rfl rfl rfl rfl rfl ?_
      rcases bool_two (decide (x0.MKind = t1.Kind)) with hb3 | hb3
      · rw [hb3]; try simp only [hb3, cond_true, cond_false, Bool.true_and, Bool.false_and, Bool.true_or, Bool.false_or, Bool.not_true, Bool.not_false] at hR
        refine GX.skip rfl rfl ?_
        refine GX.skip rfl rfl ?_
        refine GX.skip rfl rfl ?_
        refine GX.skip rfl rfl ?_
        refine GX.skip rfl rfl ?_
        refine GX.skip rfl rfl ?_
        refine GX.skip rfl rfl ?_
        refine GX.skip rfl rfl ?_
        refine GX.pure (v' := .bool true) rfl rfl rfl rfl rfl ?_
        refine GX.done ?_
        refine WK.condT rfl ?_
        refine WK.seq ?_
        refine WK.regx mixed ?_
        refine GX.pure (v' := .bool false) rfl rfl rfl rfl rfl ?_
        refine GX.done ?_
        refine WK.ret ?_
        subst hR
        exact RetQ.fr [] (.inr rfl) rfl rfl rfl rfl
      · rw [hb3]; try simp only [hb3, cond_true, cond_false, Bool.true_and, Bool.false_and, Bool.true_or, Bool.false_or, Bool.not_true, Bool.not_false] at hR
        refine GX.pure (v' := .ptr 1 3) rfl rfl rfl rfl rfl ?_
        refine GX.pure (v' := .int .i64 t1.Cost) rfl rfl rfl rfl rfl ?_
        refine GX.pure (v' := .ptr 0 4) rfl rfl rfl rfl rfl ?_
        refine GX.pure (v' := .int .i64 x0.MLow) rfl rfl rfl rfl rfl ?_
        refine GX.pure (v' := .ptr 0 5) rfl rfl rfl rfl rfl ?_
        refine GX.pure (v' := .int .i64 x0.MHigh) rfl rfl rfl rfl rfl ?_
        generalize hc40 : F27_crossroadsref08_in t1.Cost x0.MLow x0.MHigh = c40 at hR
        try dsimp only at hR
        refine GX.callp (r := .bool c40) rfl rfl rfl (f27_ok t1.Cost x0.MLow x0.MHigh _ hc40) rfl rfl ?_
        refine GX.pure (v' := .bool (!c40)) rfl rfl rfl rfl rfl ?_
        refine GX.pure (v' := .bool (!c40)) rfl rfl rfl rfl rfl ?_
        refine GX.done ?_
        rcases bool_two (c40) with hb4 | hb4
        · rw [hb4]; try simp only [hb4, cond_true, cond_false, Bool.true_and, Bool.false_and, Bool.true_or, Bool.false_or, Bool.not_true, Bool.not_false] at hR
          refine WK.condT rfl ?_
          refine WK.seq ?_
          refine WK.regx mixed ?_
          refine GX.pure (v' := .bool false) rfl rfl rfl rfl rfl ?_
          refine GX.done ?_
          refine WK.ret ?_
          subst hR
          exact RetQ.fr [] (.inr rfl) rfl rfl rfl rfl
        · rw [hb4]; try simp only [hb4, cond_true, cond_false, Bool.true_and, Bool.false_and, Bool.true_or, Bool.false_or, Bool.not_true, Bool.not_false] at hR
          refine WK.condF rfl ?_
          refine WK.skip ?_
          refine WK.seq ?_
          refine WK.regx mixed ?_
          refine GX.pure (v' := .ptr 0 6) rfl rfl rfl rfl rfl ?_
          refine GX.pure (v' := .ro 1 (x0.MTags.map c_u32)) rfl rfl rfl rfl rfl ?_
          refine GX.pure (v' := .int .i64 (x0.MTags.length : Int)) rfl rfl rfl rfl (len_map _ _) ?_
          refine GX.pure (v' := .bool (decide ((x0.MTags.length : Int) = 0))) rfl rfl rfl rfl rfl ?_
          refine GX.pure (v' := .bool (decide ((x0.MTags.length : Int) = 0))) rfl rfl rfl rfl rfl ?_
          refine GX.done ?_
          refine WK.seq ?_
          refine WK.seq ?_
          refine WK.regx mixed ?_
          refine GX.pure (v' := .int .i64 0) rfl rfl rfl rfl rfl ?_
          refine GX.done ?_
          refine WK.len (t := 44) rfl (by simp) (fun hlen_9 => ?_)
          rw [List.length_map] at hlen_9
          generalize hZ_9 : F19_crossroadsref08_Matches_l1 t1 (decide ((x0.MTags.length : Int) = 0)) x0.MTags = Z_9 at hR
          refine WK.forK (fun k s => ∃ (i8 : Nat) (tag7 : Bool), i8 ≤ x0.MTags.length ∧ k = x0.MTags.length - i8 ∧ F19_crossroadsref08_Matches_l1 t1 tag7 (x0.MTags.drop i8) = Z_9 ∧ s = ⟨[(2, .ptr 0 0), (3, .ptr 1 0), (7, .bool tag7), (8, .int .i64 (i8 : Int))], [(0, .box (TClause.c x0)), (1, .box (TRoute.c t1))], 2⟩) x0.MTags.length ⟨⟨[(2, .ptr 0 0), (3, .ptr 1 0), (7, .bool (decide ((x0.MTags.length : Int) = 0))), (8, .int .i64 (0 : Int))], [(0, .box (TClause.c x0)), (1, .box (TRoute.c t1))], 2⟩, Conv.keep [0, 1] [] [2, 3, 7, 8] rfl rfl (viewE_cons rfl rfl (viewE_cons rfl rfl (viewE_cons rfl rfl (viewE_cons rfl rfl viewE_nil)))) rfl rfl, 0, (decide ((x0.MTags.length : Int) = 0)), (by first | omega | ((try simp only [List.length_append, List.length_cons, List.length_nil] at *) <;> omega) | (have hlf := may03_len (by assumption) (by assumption); omega)), rfl, hZ_9, rfl⟩ ?_
          rintro _ _ ⟨i8, tag7, hi_9, rfl, hL_9, rfl⟩ again_9 out_9 Q_9 hagain_9 hout_9 hQ_9
          refine WK.seq ?_
          refine WK.seq ?_
          refine WK.regx mixed ?_
          refine GX.pure (v' := .int .i64 (i8 : Int)) rfl rfl rfl rfl rfl ?_
          refine GX.pure (v' := .ptr 0 6) rfl rfl rfl rfl rfl ?_
          refine GX.pure (v' := .ro 1 (x0.MTags.map c_u32)) rfl rfl rfl rfl rfl ?_
          refine GX.pure (v' := .int .i64 (x0.MTags.length : Int)) rfl rfl rfl rfl (len_map _ _) ?_
          refine GX.pure (v' := .bool (decide ((i8 : Int) < (x0.MTags.length : Int)))) rfl rfl rfl rfl rfl ?_
          refine GX.done ?_
          rcases bool_two (decide ((i8 : Int) < (x0.MTags.length : Int))) with hb10 | hb10
          · rw [hb10]
            rw [drop_end hb10, F19_crossroadsref08_Matches_l1] at hL_9
            refine WK.condF rfl ?_
            refine WK.exit ?_
            refine QF.exit (hout_9 _ ?_)
            subst hL_9
            try dsimp only [cond_true, cond_false] at hR
            refine WK.seq ?_
            refine WK.regx mixed ?_
            refine GX.pure (v' := .bool tag7) rfl rfl rfl rfl rfl ?_
            refine GX.pure (v' := .bool tag7) rfl rfl rfl rfl rfl ?_
            refine GX.done ?_
            refine WK.ret ?_
            subst hR
            exact RetQ.fr [] (.inr rfl) rfl rfl rfl rfl
          · rw [hb10]
            obtain ⟨x8, hx9, hd9, hlt9⟩ := drop_more hb10
            rw [hd9, F19_crossroadsref08_Matches_l1] at hL_9
            refine WK.condT rfl ?_
            refine WK.skip ?_
            refine WK.seq ?_
            refine WK.blockK (fun _ hK11 => ?_)
            refine WK.drawn mixed ?_
            refine RD.pure (v' := .bool tag7) rfl rfl rfl rfl rfl ?_
            refine RD.pure (v' := .bool tag7) rfl rfl rfl rfl rfl ?_
            rcases bool_two (tag7) with hb12 | hb12
            · rw [hb12]; try simp only [hb12, cond_true, cond_false, Bool.true_and, Bool.false_and, Bool.true_or, Bool.false_or, Bool.not_true, Bool.not_false] at hL_9
              refine RD.pure (v' := .ptr 0 6) rfl rfl rfl rfl rfl ?_
              refine RD.pure (v' := .ro 1 (x0.MTags.map c_u32)) rfl rfl rfl rfl rfl ?_
              refine RD.pure (v' := .int .i64 (i8 : Int)) rfl rfl rfl rfl rfl ?_
              refine RD.idxT (c := c_u32) (x := x8) rfl rfl rfl (Int.natCast_nonneg _) hx9 ?_
              refine RD.pure (v' := .int .u32 x8) rfl rfl rfl rfl rfl ?_
              refine RD.pure (v' := .ptr 1 4) rfl rfl rfl rfl rfl ?_
              refine RD.pure (v' := .int .u32 t1.Tag) rfl rfl rfl rfl rfl ?_
              refine RD.pure (v' := .bool (decide (x8 = t1.Tag))) rfl rfl rfl rfl rfl ?_
              refine RD.pure (v' := .bool (decide (x8 = t1.Tag))) rfl rfl rfl rfl rfl ?_
              refine RD.pure (v' := .bool (decide (x8 = t1.Tag))) rfl rfl rfl rfl rfl ?_
              refine RD.done rfl ?_
              refine WK.nil (QF.normal (hK11 _ ?_))
              refine WK.regx mixed ?_
              refine GX.pure (v' := .int .i64 (i8 : Int)) rfl rfl rfl rfl rfl ?_
              refine GX.pure (v' := .int .i64 ((i8 + 1 : Nat) : Int)) rfl rfl rfl rfl (congrArg (PVal.int .i64) (wrap_up hlt9 hlen_9)) ?_
              refine GX.pure (v' := .int .i64 ((i8 + 1 : Nat) : Int)) rfl rfl rfl rfl rfl ?_
              refine GX.done ?_
              refine WK.nil (QF.normal ?_)
              exact hagain_9 _ (x0.MTags.length - (i8 + 1)) ⟨[(2, .ptr 0 0), (3, .ptr 1 0), (7, .bool (decide (x8 = t1.Tag))), (8, .int .i64 ((i8 + 1) : Int))], [(0, .box (TClause.c x0)), (1, .box (TRoute.c t1))], 2⟩ (by first | omega | ((try simp only [List.length_append, List.length_cons, List.length_nil] at *) <;> omega) | (have hlf := may03_len (by assumption) (by assumption); omega)) (Conv.keep [0, 1] [] [2, 3, 7, 8] rfl rfl (viewE_cons rfl rfl (viewE_cons rfl rfl (viewE_cons rfl rfl (viewE_cons rfl rfl viewE_nil)))) rfl rfl) ⟨i8 + 1, (decide (x8 = t1.Tag)), (by first | omega | ((try simp only [List.length_append, List.length_cons, List.length_nil] at *) <;> omega) | (have hlf := may03_len (by assumption) (by assumption); omega)), rfl, hL_9, rfl⟩
            · rw [hb12]; try simp only [hb12, cond_true, cond_false, Bool.true_and, Bool.false_and, Bool.true_or, Bool.false_or, Bool.not_true, Bool.not_false] at hL_9
              refine RD.skip rfl rfl ?_
              refine RD.skip rfl rfl ?_
              refine RD.skip rfl rfl ?_
              refine RD.skip rfl rfl ?_
              refine RD.skip rfl rfl ?_
              refine RD.skip rfl rfl ?_
              refine RD.skip rfl rfl ?_
              refine RD.skip rfl rfl ?_
              refine RD.pure (v' := .bool true) rfl rfl rfl rfl rfl ?_
              refine RD.pure (v' := .bool true) rfl rfl rfl rfl rfl ?_
              refine RD.done rfl ?_
              refine WK.nil (QF.normal (hK11 _ ?_))
              refine WK.regx mixed ?_
              refine GX.pure (v' := .int .i64 (i8 : Int)) rfl rfl rfl rfl rfl ?_
              refine GX.pure (v' := .int .i64 ((i8 + 1 : Nat) : Int)) rfl rfl rfl rfl (congrArg (PVal.int .i64) (wrap_up hlt9 hlen_9)) ?_
              refine GX.pure (v' := .int .i64 ((i8 + 1 : Nat) : Int)) rfl rfl rfl rfl rfl ?_
              refine GX.done ?_
              refine WK.nil (QF.normal ?_)
              exact hagain_9 _ (x0.MTags.length - (i8 + 1)) ⟨[(2, .ptr 0 0), (3, .ptr 1 0), (7, .bool true), (8, .int .i64 ((i8 + 1) : Int))], [(0, .box (TClause.c x0)), (1, .box (TRoute.c t1))], 2⟩ (by first | omega | ((try simp only [List.length_append, List.length_cons, List.length_nil] at *) <;> omega) | (have hlf := may03_len (by assumption) (by assumption); omega)) (Conv.keep [0, 1] [] [2, 3, 7, 8] rfl rfl (viewE_cons rfl rfl (viewE_cons rfl rfl (viewE_cons rfl rfl (viewE_cons rfl rfl viewE_nil)))) rfl rfl) ⟨i8 + 1, true, (by first | omega | ((try simp only [List.length_append, List.length_cons, List.length_nil] at *) <;> omega) | (have hlf := may03_len (by assumption) (by assumption); omega)), rfl, hL_9, rfl⟩
    · rw [hb2]; try simp only [hb2, cond_true, cond_false, Bool.true_and, Bool.false_and, Bool.true_or, Bool.false_or, Bool.not_true, Bool.not_false] at hR
      refine GX.skip rfl rfl ?_
      refine GX.skip rfl rfl ?_
      refine GX.skip rfl rfl ?_
      refine GX.skip rfl rfl ?_
      refine GX.skip rfl rfl ?_
      refine GX.pure (v' := .bool false) rfl rfl rfl rfl rfl ?_
      refine GX.pure (v' := .bool false) rfl rfl rfl rfl rfl ?_
      refine GX.pure (v' := .ptr 1 3) rfl rfl rfl rfl rfl ?_
      refine GX.pure (v' := .int .i64 t1.Cost) rfl rfl rfl rfl rfl ?_
      refine GX.pure (v' := .ptr 0 4) rfl rfl rfl rfl rfl ?_
      refine GX.pure (v' := .int .i64 x0.MLow) rfl rfl rfl rfl rfl ?_
      refine GX.pure (v' := .ptr 0 5) rfl rfl rfl rfl rfl ?_
      refine GX.pure (v' := .int .i64 x0.MHigh) rfl rfl rfl rfl rfl ?_
      generalize hc40 : F27_crossroadsref08_in t1.Cost x0.MLow x0.MHigh = c40 at hR
      try dsimp only at hR
      refine GX.callp (r := .bool c40) rfl rfl rfl (f27_ok t1.Cost x0.MLow x0.MHigh _ hc40) rfl rfl ?_
      refine GX.pure (v' := .bool (!c40)) rfl rfl rfl rfl rfl ?_
      refine GX.pure (v' := .bool (!c40)) rfl rfl rfl rfl rfl ?_
      refine GX.done ?_
      rcases bool_two (c40) with hb13 | hb13
      · rw [hb13]; try simp only [hb13, cond_true, cond_false, Bool.true_and, Bool.false_and, Bool.true_or, Bool.false_or, Bool.not_true, Bool.not_false] at hR
        refine WK.condT rfl ?_
        refine WK.seq ?_
        refine WK.regx mixed ?_
        refine GX.pure (v' := .bool false) rfl rfl rfl rfl rfl ?_
        refine GX.done ?_
        refine WK.ret ?_
        subst hR
        exact RetQ.fr [] (.inr rfl) rfl rfl rfl rfl
      · rw [hb13]; try simp only [hb13, cond_true, cond_false, Bool.true_and, Bool.false_and, Bool.true_or, Bool.false_or, Bool.not_true, Bool.not_false] at hR
        refine WK.condF rfl ?_
        refine WK.skip ?_
        refine WK.seq ?_
        refine WK.regx mixed ?_
        refine GX.pure (v' := .ptr 0 6) rfl rfl rfl rfl rfl ?_
        refine GX.pure (v' := .ro 1 (x0.MTags.map c_u32)) rfl rfl rfl rfl rfl ?_
        refine GX.pure (v' := .int .i64 (x0.MTags.length : Int)) rfl rfl rfl rfl (len_map _ _) ?_
        refine GX.pure (v' := .bool (decide ((x0.MTags.length : Int) = 0))) rfl rfl rfl rfl rfl ?_
        refine GX.pure (v' := .bool (decide ((x0.MTags.length : Int) = 0))) rfl rfl rfl rfl rfl ?_
        refine GX.done ?_
        refine WK.seq ?_
        refine WK.seq ?_
        refine WK.regx mixed ?_
        refine GX.pure (v' := .int .i64 0) rfl rfl rfl rfl rfl ?_
        refine GX.done ?_
        refine WK.len (t := 44) rfl (by simp) (fun hlen_18 => ?_)
        rw [List.length_map] at hlen_18
        generalize hZ_18 : F19_crossroadsref08_Matches_l2 t1 (decide ((x0.MTags.length : Int) = 0)) x0.MTags = Z_18 at hR
        refine WK.forK (fun k s => ∃ (i8 : Nat) (tag7 : Bool), i8 ≤ x0.MTags.length ∧ k = x0.MTags.length - i8 ∧ F19_crossroadsref08_Matches_l2 t1 tag7 (x0.MTags.drop i8) = Z_18 ∧ s = ⟨[(2, .ptr 0 0), (3, .ptr 1 0), (7, .bool tag7), (8, .int .i64 (i8 : Int))], [(0, .box (TClause.c x0)), (1, .box (TRoute.c t1))], 2⟩) x0.MTags.length ⟨⟨[(2, .ptr 0 0), (3, .ptr 1 0), (7, .bool (decide ((x0.MTags.length : Int) = 0))), (8, .int .i64 (0 : Int))], [(0, .box (TClause.c x0)), (1, .box (TRoute.c t1))], 2⟩, Conv.keep [0, 1] [] [2, 3, 7, 8] rfl rfl (viewE_cons rfl rfl (viewE_cons rfl rfl (viewE_cons rfl rfl (viewE_cons rfl rfl viewE_nil)))) rfl rfl, 0, (decide ((x0.MTags.length : Int) = 0)), (by first | omega | ((try simp only [List.length_append, List.length_cons, List.length_nil] at *) <;> omega) | (have hlf := may03_len (by assumption) (by assumption); omega)), rfl, hZ_18, rfl⟩ ?_
        rintro _ _ ⟨i8, tag7, hi_18, rfl, hL_18, rfl⟩ again_18 out_18 Q_18 hagain_18 hout_18 hQ_18
        refine WK.seq ?_
        refine WK.seq ?_
        refine WK.regx mixed ?_
        refine GX.pure (v' := .int .i64 (i8 : Int)) rfl rfl rfl rfl rfl ?_
        refine GX.pure (v' := .ptr 0 6) rfl rfl rfl rfl rfl ?_
        refine GX.pure (v' := .ro 1 (x0.MTags.map c_u32)) rfl rfl rfl rfl rfl ?_
        refine GX.pure (v' := .int .i64 (x0.MTags.length : Int)) rfl rfl rfl rfl (len_map _ _) ?_
        refine GX.pure (v' := .bool (decide ((i8 : Int) < (x0.MTags.length : Int)))) rfl rfl rfl rfl rfl ?_
        refine GX.done ?_
        rcases bool_two (decide ((i8 : Int) < (x0.MTags.length : Int))) with hb19 | hb19
        · rw [hb19]
          rw [drop_end hb19, F19_crossroadsref08_Matches_l2] at hL_18
          refine WK.condF rfl ?_
          refine WK.exit ?_
          refine QF.exit (hout_18 _ ?_)
          subst hL_18
          try dsimp only [cond_true, cond_false] at hR
          refine WK.seq ?_
          refine WK.regx mixed ?_
          refine GX.pure (v' := .bool tag7) rfl rfl rfl rfl rfl ?_
          refine GX.pure (v' := .bool tag7) rfl rfl rfl rfl rfl ?_
          refine GX.done ?_
          refine WK.ret ?_
          subst hR
          exact RetQ.fr [] (.inr rfl) rfl rfl rfl rfl
        · rw [hb19]
          obtain ⟨x8, hx18, hd18, hlt18⟩ := drop_more hb19
          rw [hd18, F19_crossroadsref08_Matches_l2] at hL_18
          refine WK.condT rfl ?_
          refine WK.skip ?_
          refine WK.seq ?_
          refine WK.blockK (fun _ hK20 => ?_)
          refine WK.drawn mixed ?_
          refine RD.pure (v' := .bool tag7) rfl rfl rfl rfl rfl ?_
          refine RD.pure (v' := .bool tag7) rfl rfl rfl rfl rfl ?_
          rcases bool_two (tag7) with hb21 | hb21
          · rw [hb21]; try simp only [hb21, cond_true, cond_false, Bool.true_and, Bool.false_and, Bool.true_or, Bool.false_or, Bool.not_true, Bool.not_false] at hL_18
            refine RD.pure (v' := .ptr 0 6) rfl rfl rfl rfl rfl ?_
            refine RD.pure (v' := .ro 1 (x0.MTags.map c_u32)) rfl rfl rfl rfl rfl ?_
            refine RD.pure (v' := .int .i64 (i8 : Int)) rfl rfl rfl rfl rfl ?_
            refine RD.idxT (c := c_u32) (x := x8) rfl rfl rfl (Int.natCast_nonneg _) hx18 ?_
            refine RD.pure (v' := .int .u32 x8) rfl rfl rfl rfl rfl ?_
            refine RD.pure (v' := .ptr 1 4) rfl rfl rfl rfl rfl ?_
            refine RD.pure (v' := .int .u32 t1.Tag) rfl rfl rfl rfl rfl ?_
            refine RD.pure (v' := .bool (decide (x8 = t1.Tag))) rfl rfl rfl rfl rfl ?_
            refine RD.pure (v' := .bool (decide (x8 = t1.Tag))) rfl rfl rfl rfl rfl ?_
            refine RD.pure (v' := .bool (decide (x8 = t1.Tag))) rfl rfl rfl rfl rfl ?_
            refine RD.done rfl ?_
            refine WK.nil (QF.normal (hK20 _ ?_))
            refine WK.regx mixed ?_
            refine GX.pure (v' := .int .i64 (i8 : Int)) rfl rfl rfl rfl rfl ?_
            refine GX.pure (v' := .int .i64 ((i8 + 1 : Nat) : Int)) rfl rfl rfl rfl (congrArg (PVal.int .i64) (wrap_up hlt18 hlen_18)) ?_
            refine GX.pure (v' := .int .i64 ((i8 + 1 : Nat) : Int)) rfl rfl rfl rfl rfl ?_
            refine GX.done ?_
            refine WK.nil (QF.normal ?_)
            exact hagain_18 _ (x0.MTags.length - (i8 + 1)) ⟨[(2, .ptr 0 0), (3, .ptr 1 0), (7, .bool (decide (x8 = t1.Tag))), (8, .int .i64 ((i8 + 1) : Int))], [(0, .box (TClause.c x0)), (1, .box (TRoute.c t1))], 2⟩ (by first | omega | ((try simp only [List.length_append, List.length_cons, List.length_nil] at *) <;> omega) | (have hlf := may03_len (by assumption) (by assumption); omega)) (Conv.keep [0, 1] [] [2, 3, 7, 8] rfl rfl (viewE_cons rfl rfl (viewE_cons rfl rfl (viewE_cons rfl rfl (viewE_cons rfl rfl viewE_nil)))) rfl rfl) ⟨i8 + 1, (decide (x8 = t1.Tag)), (by first | omega | ((try simp only [List.length_append, List.length_cons, List.length_nil] at *) <;> omega) | (have hlf := may03_len (by assumption) (by assumption); omega)), rfl, hL_18, rfl⟩
          · rw [hb21]; try simp only [hb21, cond_true, cond_false, Bool.true_and, Bool.false_and, Bool.true_or, Bool.false_or, Bool.not_true, Bool.not_false] at hL_18
            refine RD.skip rfl rfl ?_
            refine RD.skip rfl rfl ?_
            refine RD.skip rfl rfl ?_
            refine RD.skip rfl rfl ?_
            refine RD.skip rfl rfl ?_
            refine RD.skip rfl rfl ?_
            refine RD.skip rfl rfl ?_
            refine RD.skip rfl rfl ?_
            refine RD.pure (v' := .bool true) rfl rfl rfl rfl rfl ?_
            refine RD.pure (v' := .bool true) rfl rfl rfl rfl rfl ?_
            refine RD.done rfl ?_
            refine WK.nil (QF.normal (hK20 _ ?_))
            refine WK.regx mixed ?_
            refine GX.pure (v' := .int .i64 (i8 : Int)) rfl rfl rfl rfl rfl ?_
            refine GX.pure (v' := .int .i64 ((i8 + 1 : Nat) : Int)) rfl rfl rfl rfl (congrArg (PVal.int .i64) (wrap_up hlt18 hlen_18)) ?_
            refine GX.pure (v' := .int .i64 ((i8 + 1 : Nat) : Int)) rfl rfl rfl rfl rfl ?_
            refine GX.done ?_
            refine WK.nil (QF.normal ?_)
            exact hagain_18 _ (x0.MTags.length - (i8 + 1)) ⟨[(2, .ptr 0 0), (3, .ptr 1 0), (7, .bool true), (8, .int .i64 ((i8 + 1) : Int))], [(0, .box (TClause.c x0)), (1, .box (TRoute.c t1))], 2⟩ (by first | omega | ((try simp only [List.length_append, List.length_cons, List.length_nil] at *) <;> omega) | (have hlf := may03_len (by assumption) (by assumption); omega)) (Conv.keep [0, 1] [] [2, 3, 7, 8] rfl rfl (viewE_cons rfl rfl (viewE_cons rfl rfl (viewE_cons rfl rfl (viewE_cons rfl rfl viewE_nil)))) rfl rfl) ⟨i8 + 1, true, (by first | omega | ((try simp only [List.length_append, List.length_cons, List.length_nil] at *) <;> omega) | (have hlf := may03_len (by assumption) (by assumption); omega)), rfl, hL_18, rfl⟩
  · rw [hb1]; try simp only [hb1, cond_true, cond_false, Bool.true_and, Bool.false_and, Bool.true_or, Bool.false_or, Bool.not_true, Bool.not_false] at hR
    refine WK.condT rfl ?_
    refine WK.seq ?_
    refine WK.regx mixed ?_
    refine GX.pure (v' := .ptr 0 2) rfl rfl rfl rfl rfl ?_
    refine GX.pure (v' := .ro 6 (x0.Listf.map TRule.c)) rfl rfl rfl rfl rfl ?_
    refine GX.pure (v' := .ptr 1 0) rfl rfl rfl rfl rfl ?_
    refine GX.pure (v' := .agg [.int .u32 t1.P.A, .int .i64 t1.P.N]) rfl rfl rfl rfl rfl ?_
    generalize hc18 : F40_crossroadsref07_Eval x0.Listf t1.P = c18 at hR
    obtain ⟨c18a, c18b⟩ := c18; try dsimp only at hR
    refine GX.callp (r := .tup [.bool c18a, .int .i64 c18b]) rfl rfl rfl (f40_ok x0.Listf t1.P _ hc18) rfl rfl ?_
    refine GX.pure (v' := .tup [.bool c18a, .int .i64 c18b]) rfl rfl rfl rfl rfl ?_
    refine GX.pure (v' := .bool c18a) rfl rfl rfl rfl rfl ?_
    refine GX.pure (v' := .int .i64 c18b) rfl rfl rfl rfl rfl ?_
    refine GX.pure (v' := .bool c18a) rfl rfl rfl rfl rfl ?_
    refine GX.pure (v' := .int .i64 c18b) rfl rfl rfl rfl rfl ?_
    refine GX.done ?_
    refine WK.seq ?_
    refine WK.regx mixed ?_
    refine GX.pure (v' := .bool c18a) rfl rfl rfl rfl rfl ?_
    refine GX.pure (v' := .bool (!c18a)) rfl rfl rfl rfl rfl ?_
    refine GX.done ?_
    rcases bool_two (c18a) with hb22 | hb22
    · rw [hb22]; try simp only [hb22, cond_true, cond_false, Bool.true_and, Bool.false_and, Bool.true_or, Bool.false_or, Bool.not_true, Bool.not_false] at hR
      refine WK.condT rfl ?_
      refine WK.seq ?_
      refine WK.regx mixed ?_
      refine GX.pure (v' := .bool false) rfl rfl rfl rfl rfl ?_
      refine GX.done ?_
      refine WK.ret ?_
      subst hR
      exact RetQ.fr [] (.inr rfl) rfl rfl rfl rfl
    · rw [hb22]; try simp only [hb22, cond_true, cond_false, Bool.true_and, Bool.false_and, Bool.true_or, Bool.false_or, Bool.not_true, Bool.not_false] at hR
      refine WK.condF rfl ?_
      refine WK.skip ?_
      refine WK.seq ?_
      refine WK.seq ?_
      refine WK.regx mixed ?_
      refine GX.pure (v' := .ptr 0 3) rfl rfl rfl rfl rfl ?_
      refine GX.pure (v' := .int .i64 x0.MKind) rfl rfl rfl rfl rfl ?_
      refine GX.pure (v' := .bool (!decide (x0.MKind = (-1)))) rfl rfl rfl rfl rfl ?_
      refine GX.pure (v' := .bool (!decide (x0.MKind = (-1)))) rfl rfl rfl rfl rfl ?_
      rcases bool_two (decide (x0.MKind = (-1))) with hb23 | hb23
      · rw [hb23]; try simp only [hb23, cond_true, cond_false, Bool.true_and, Bool.false_and, Bool.true_or, Bool.false_or, Bool.not_true, Bool.not_false] at hR
        refine GX.pure (v' := .ptr 0 3) rfl rfl rfl rfl rfl ?_
        refine GX.pure (v' := .int .i64 x0.MKind) rfl rfl rfl rfl rfl ?_
        refine GX.pure (v' := .ptr 1 2) rfl rfl rfl rfl rfl ?_
        refine GX.pure (v' := .int .i64 t1.Kind) rfl rfl rfl rfl rfl ?_
        refine GX.pure (v' := .bool (!decide (x0.MKind = t1.Kind))) rfl rfl rfl rfl rfl ?_
        refine GX.pure (v' := .bool (!decide (x0.MKind = t1.Kind))) rfl rfl rfl rfl rfl ?_
        refine GX.pure (v' := .bool (!decide (x0.MKind = t1.Kind))) rfl rfl rfl rfl rfl ?_
        rcases bool_two (decide (x0.MKind = t1.Kind)) with hb24 | hb24
        · rw [hb24]; try simp only [hb24, cond_true, cond_false, Bool.true_and, Bool.false_and, Bool.true_or, Bool.false_or, Bool.not_true, Bool.not_false] at hR
          refine GX.skip rfl rfl ?_
          refine GX.skip rfl rfl ?_
          refine GX.skip rfl rfl ?_
          refine GX.skip rfl rfl ?_
          refine GX.skip rfl rfl ?_
          refine GX.skip rfl rfl ?_
          refine GX.skip rfl rfl ?_
          refine GX.skip rfl rfl ?_
          refine GX.pure (v' := .bool true) rfl rfl rfl rfl rfl ?_
          refine GX.done ?_
          refine WK.condT rfl ?_
          refine WK.seq ?_
          refine WK.regx mixed ?_
          refine GX.pure (v' := .bool false) rfl rfl rfl rfl rfl ?_
          refine GX.done ?_
          refine WK.ret ?_
          subst hR
          exact RetQ.fr [] (.inr rfl) rfl rfl rfl rfl
        · rw [hb24]; try simp only [hb24, cond_true, cond_false, Bool.true_and, Bool.false_and, Bool.true_or, Bool.false_or, Bool.not_true, Bool.not_false] at hR
          refine GX.pure (v' := .ptr 1 3) rfl rfl rfl rfl rfl ?_
          refine GX.pure (v' := .int .i64 t1.Cost) rfl rfl rfl rfl rfl ?_
          refine GX.pure (v' := .ptr 0 4) rfl rfl rfl rfl rfl ?_
          refine GX.pure (v' := .int .i64 x0.MLow) rfl rfl rfl rfl rfl ?_
          refine GX.pure (v' := .ptr 0 5) rfl rfl rfl rfl rfl ?_
          refine GX.pure (v' := .int .i64 x0.MHigh) rfl rfl rfl rfl rfl ?_
          generalize hc40 : F27_crossroadsref08_in t1.Cost x0.MLow x0.MHigh = c40 at hR
          try dsimp only at hR
          refine GX.callp (r := .bool c40) rfl rfl rfl (f27_ok t1.Cost x0.MLow x0.MHigh _ hc40) rfl rfl ?_
          refine GX.pure (v' := .bool (!c40)) rfl rfl rfl rfl rfl ?_
          refine GX.pure (v' := .bool (!c40)) rfl rfl rfl rfl rfl ?_
          refine GX.done ?_
          rcases bool_two (c40) with hb25 | hb25
          · rw [hb25]; try simp only [hb25, cond_true, cond_false, Bool.true_and, Bool.false_and, Bool.true_or, Bool.false_or, Bool.not_true, Bool.not_false] at hR
            refine WK.condT rfl ?_
            refine WK.seq ?_
            refine WK.regx mixed ?_
            refine GX.pure (v' := .bool false) rfl rfl rfl rfl rfl ?_
            refine GX.done ?_
            refine WK.ret ?_
            subst hR
            exact RetQ.fr [] (.inr rfl) rfl rfl rfl rfl
          · rw [hb25]; try simp only [hb25, cond_true, cond_false, Bool.true_and, Bool.false_and, Bool.true_or, Bool.false_or, Bool.not_true, Bool.not_false] at hR
            refine WK.condF rfl ?_
            refine WK.skip ?_
            refine WK.seq ?_
            refine WK.regx mixed ?_
            refine GX.pure (v' := .ptr 0 6) rfl rfl rfl rfl rfl ?_
            refine GX.pure (v' := .ro 1 (x0.MTags.map c_u32)) rfl rfl rfl rfl rfl ?_
            refine GX.pure (v' := .int .i64 (x0.MTags.length : Int)) rfl rfl rfl rfl (len_map _ _) ?_
            refine GX.pure (v' := .bool (decide ((x0.MTags.length : Int) = 0))) rfl rfl rfl rfl rfl ?_
            refine GX.pure (v' := .bool (decide ((x0.MTags.length : Int) = 0))) rfl rfl rfl rfl rfl ?_
            refine GX.done ?_
            refine WK.seq ?_
            refine WK.seq ?_
            refine WK.regx mixed ?_
            refine GX.pure (v' := .int .i64 0) rfl rfl rfl rfl rfl ?_
            refine GX.done ?_
            refine WK.len (t := 44) rfl (by simp) (fun hlen_30 => ?_)
            rw [List.length_map] at hlen_30
            generalize hZ_30 : F19_crossroadsref08_Matches_l2 t1 (decide ((x0.MTags.length : Int) = 0)) x0.MTags = Z_30 at hR
            refine WK.forK (fun k s => ∃ (i8 : Nat) (tag7 : Bool), i8 ≤ x0.MTags.length ∧ k = x0.MTags.length - i8 ∧ F19_crossroadsref08_Matches_l2 t1 tag7 (x0.MTags.drop i8) = Z_30 ∧ s = ⟨[(2, .ptr 0 0), (3, .ptr 1 0), (7, .bool tag7), (8, .int .i64 (i8 : Int))], [(0, .box (TClause.c x0)), (1, .box (TRoute.c t1))], 2⟩) x0.MTags.length ⟨⟨[(2, .ptr 0 0), (3, .ptr 1 0), (7, .bool (decide ((x0.MTags.length : Int) = 0))), (8, .int .i64 (0 : Int))], [(0, .box (TClause.c x0)), (1, .box (TRoute.c t1))], 2⟩, Conv.keep [0, 1] [] [2, 3, 7, 8] rfl rfl (viewE_cons rfl rfl (viewE_cons rfl rfl (viewE_cons rfl rfl (viewE_cons rfl rfl viewE_nil)))) rfl rfl, 0, (decide ((x0.MTags.length : Int) = 0)), (by first | omega | ((try simp only [List.length_append, List.length_cons, List.length_nil] at *) <;> omega) | (have hlf := may03_len (by assumption) (by assumption); omega)), rfl, hZ_30, rfl⟩ ?_
            rintro _ _ ⟨i8, tag7, hi_30, rfl, hL_30, rfl⟩ again_30 out_30 Q_30 hagain_30 hout_30 hQ_30
            refine WK.seq ?_
            refine WK.seq ?_
            refine WK.regx mixed ?_
            refine GX.pure (v' := .int .i64 (i8 : Int)) rfl rfl rfl rfl rfl ?_
            refine GX.pure (v' := .ptr 0 6) rfl rfl rfl rfl rfl ?_
            refine GX.pure (v' := .ro 1 (x0.MTags.map c_u32)) rfl rfl rfl rfl rfl ?_
            refine GX.pure (v' := .int .i64 (x0.MTags.length : Int)) rfl rfl rfl rfl (len_map _ _) ?_
            refine GX.pure (v' := .bool (decide ((i8 : Int) < (x0.MTags.length : Int)))) rfl rfl rfl rfl rfl ?_
            refine GX.done ?_
            rcases bool_two (decide ((i8 : Int) < (x0.MTags.length : Int))) with hb31 | hb31
            · rw [hb31]
              rw [drop_end hb31, F19_crossroadsref08_Matches_l2] at hL_30
              refine WK.condF rfl ?_
              refine WK.exit ?_
              refine QF.exit (hout_30 _ ?_)
              subst hL_30
              try dsimp only [cond_true, cond_false] at hR
              refine WK.seq ?_
              refine WK.regx mixed ?_
              refine GX.pure (v' := .bool tag7) rfl rfl rfl rfl rfl ?_
              refine GX.pure (v' := .bool tag7) rfl rfl rfl rfl rfl ?_
              refine GX.done ?_
              refine WK.ret ?_
              subst hR
              exact RetQ.fr [] (.inr rfl) rfl rfl rfl rfl
            · rw [hb31]
              obtain ⟨x8, hx30, hd30, hlt30⟩ := drop_more hb31
              rw [hd30, F19_crossroadsref08_Matches_l2] at hL_30
              refine WK.condT rfl ?_
              refine WK.skip ?_
              refine WK.seq ?_
              refine WK.blockK (fun _ hK32 => ?_)
              refine WK.drawn mixed ?_
              refine RD.pure (v' := .bool tag7) rfl rfl rfl rfl rfl ?_
              refine RD.pure (v' := .bool tag7) rfl rfl rfl rfl rfl ?_
              rcases bool_two (tag7) with hb33 | hb33
              · rw [hb33]; try simp only [hb33, cond_true, cond_false, Bool.true_and, Bool.false_and, Bool.true_or, Bool.false_or, Bool.not_true, Bool.not_false] at hL_30
                refine RD.pure (v' := .ptr 0 6) rfl rfl rfl rfl rfl ?_
                refine RD.pure (v' := .ro 1 (x0.MTags.map c_u32)) rfl rfl rfl rfl rfl ?_
                refine RD.pure (v' := .int .i64 (i8 : Int)) rfl rfl rfl rfl rfl ?_
                refine RD.idxT (c := c_u32) (x := x8) rfl rfl rfl (Int.natCast_nonneg _) hx30 ?_
                refine RD.pure (v' := .int .u32 x8) rfl rfl rfl rfl rfl ?_
                refine RD.pure (v' := .ptr 1 4) rfl rfl rfl rfl rfl ?_
                refine RD.pure (v' := .int .u32 t1.Tag) rfl rfl rfl rfl rfl ?_
                refine RD.pure (v' := .bool (decide (x8 = t1.Tag))) rfl rfl rfl rfl rfl ?_
                refine RD.pure (v' := .bool (decide (x8 = t1.Tag))) rfl rfl rfl rfl rfl ?_
                refine RD.pure (v' := .bool (decide (x8 = t1.Tag))) rfl rfl rfl rfl rfl ?_
                refine RD.done rfl ?_
                refine WK.nil (QF.normal (hK32 _ ?_))
                refine WK.regx mixed ?_
                refine GX.pure (v' := .int .i64 (i8 : Int)) rfl rfl rfl rfl rfl ?_
                refine GX.pure (v' := .int .i64 ((i8 + 1 : Nat) : Int)) rfl rfl rfl rfl (congrArg (PVal.int .i64) (wrap_up hlt30 hlen_30)) ?_
                refine GX.pure (v' := .int .i64 ((i8 + 1 : Nat) : Int)) rfl rfl rfl rfl rfl ?_
                refine GX.done ?_
                refine WK.nil (QF.normal ?_)
                exact hagain_30 _ (x0.MTags.length - (i8 + 1)) ⟨[(2, .ptr 0 0), (3, .ptr 1 0), (7, .bool (decide (x8 = t1.Tag))), (8, .int .i64 ((i8 + 1) : Int))], [(0, .box (TClause.c x0)), (1, .box (TRoute.c t1))], 2⟩ (by first | omega | ((try simp only [List.length_append, List.length_cons, List.length_nil] at *) <;> omega) | (have hlf := may03_len (by assumption) (by assumption); omega)) (Conv.keep [0, 1] [] [2, 3, 7, 8] rfl rfl (viewE_cons rfl rfl (viewE_cons rfl rfl (viewE_cons rfl rfl (viewE_cons rfl rfl viewE_nil)))) rfl rfl) ⟨i8 + 1, (decide (x8 = t1.Tag)), (by first | omega | ((try simp only [List.length_append, List.length_cons, List.length_nil] at *) <;> omega) | (have hlf := may03_len (by assumption) (by assumption); omega)), rfl, hL_30, rfl⟩
              · rw [hb33]; try simp only [hb33, cond_true, cond_false, Bool.true_and, Bool.false_and, Bool.true_or, Bool.false_or, Bool.not_true, Bool.not_false] at hL_30
                refine RD.skip rfl rfl ?_
                refine RD.skip rfl rfl ?_
                refine RD.skip rfl rfl ?_
                refine RD.skip rfl rfl ?_
                refine RD.skip rfl rfl ?_
                refine RD.skip rfl rfl ?_
                refine RD.skip rfl rfl ?_
                refine RD.skip rfl rfl ?_
                refine RD.pure (v' := .bool true) rfl rfl rfl rfl rfl ?_
                refine RD.pure (v' := .bool true) rfl rfl rfl rfl rfl ?_
                refine RD.done rfl ?_
                refine WK.nil (QF.normal (hK32 _ ?_))
                refine WK.regx mixed ?_
                refine GX.pure (v' := .int .i64 (i8 : Int)) rfl rfl rfl rfl rfl ?_
                refine GX.pure (v' := .int .i64 ((i8 + 1 : Nat) : Int)) rfl rfl rfl rfl (congrArg (PVal.int .i64) (wrap_up hlt30 hlen_30)) ?_
                refine GX.pure (v' := .int .i64 ((i8 + 1 : Nat) : Int)) rfl rfl rfl rfl rfl ?_
                refine GX.done ?_
                refine WK.nil (QF.normal ?_)
                exact hagain_30 _ (x0.MTags.length - (i8 + 1)) ⟨[(2, .ptr 0 0), (3, .ptr 1 0), (7, .bool true), (8, .int .i64 ((i8 + 1) : Int))], [(0, .box (TClause.c x0)), (1, .box (TRoute.c t1))], 2⟩ (by first | omega | ((try simp only [List.length_append, List.length_cons, List.length_nil] at *) <;> omega) | (have hlf := may03_len (by assumption) (by assumption); omega)) (Conv.keep [0, 1] [] [2, 3, 7, 8] rfl rfl (viewE_cons rfl rfl (viewE_cons rfl rfl (viewE_cons rfl rfl (viewE_cons rfl rfl viewE_nil)))) rfl rfl) ⟨i8 + 1, true, (by first | omega | ((try simp only [List.length_append, List.length_cons, List.length_nil] at *) <;> omega) | (have hlf := may03_len (by assumption) (by assumption); omega)), rfl, hL_30, rfl⟩
      · rw [hb23]; try simp only [hb23, cond_true, cond_false, Bool.true_and, Bool.false_and, Bool.true_or, Bool.false_or, Bool.not_true, Bool.not_false] at hR
        refine GX.skip rfl rfl ?_
        refine GX.skip rfl rfl ?_
        refine GX.skip rfl rfl ?_
        refine GX.skip rfl rfl ?_
        refine GX.skip rfl rfl ?_
        refine GX.pure (v' := .bool false) rfl rfl rfl rfl rfl ?_
        refine GX.pure (v' := .bool false) rfl rfl rfl rfl rfl ?_
        refine GX.pure (v' := .ptr 1 3) rfl rfl rfl rfl rfl ?_
        refine GX.pure (v' := .int .i64 t1.Cost) rfl rfl rfl rfl rfl ?_
        refine GX.pure (v' := .ptr 0 4) rfl rfl rfl rfl rfl ?_
        refine GX.pure (v' := .int .i64 x0.MLow) rfl rfl rfl rfl rfl ?_
        refine GX.pure (v' := .ptr 0 5) rfl rfl rfl rfl rfl ?_
        refine GX.pure (v' := .int .i64 x0.MHigh) rfl rfl rfl rfl rfl ?_
        generalize hc40 : F27_crossroadsref08_in t1.Cost x0.MLow x0.MHigh = c40 at hR
        try dsimp only at hR
        refine GX.callp (r := .bool c40) rfl rfl rfl (f27_ok t1.Cost x0.MLow x0.MHigh _ hc40) rfl rfl ?_
        refine GX.pure (v' := .bool (!c40)) rfl rfl rfl rfl rfl ?_
        refine GX.pure (v' := .bool (!c40)) rfl rfl rfl rfl rfl ?_
        refine GX.done ?_
        rcases bool_two (c40) with hb34 | hb34
        · rw [hb34]; try simp only [hb34, cond_true, cond_false, Bool.true_and, Bool.false_and, Bool.true_or, Bool.false_or, Bool.not_true, Bool.not_false] at hR
          refine WK.condT rfl ?_
          refine WK.seq ?_
          refine WK.regx mixed ?_
          refine GX.pure (v' := .bool false) rfl rfl rfl rfl rfl ?_
          refine GX.done ?_
          refine WK.ret ?_
          subst hR
          exact RetQ.fr [] (.inr rfl) rfl rfl rfl rfl
        · rw [hb34]; try simp only [hb34, cond_true, cond_false, Bool.true_and, Bool.false_and, Bool.true_or, Bool.false_or, Bool.not_true, Bool.not_false] at hR
          refine WK.condF rfl ?_
          refine WK.skip ?_
          refine WK.seq ?_
          refine WK.regx mixed ?_
          refine GX.pure (v' := .ptr 0 6) rfl rfl rfl rfl rfl ?_
          refine GX.pure (v' := .ro 1 (x0.MTags.map c_u32)) rfl rfl rfl rfl rfl ?_
          refine GX.pure (v' := .int .i64 (x0.MTags.length : Int)) rfl rfl rfl rfl (len_map _ _) ?_
          refine GX.pure (v' := .bool (decide ((x0.MTags.length : Int) = 0))) rfl rfl rfl rfl rfl ?_
          refine GX.pure (v' := .bool (decide ((x0.MTags.length : Int) = 0))) rfl rfl rfl rfl rfl ?_
          refine GX.done ?_
          refine WK.seq ?_
          refine WK.seq ?_
          refine WK.regx mixed ?_
          refine GX.pure (v' := .int .i64 0) rfl rfl rfl rfl rfl ?_
          refine GX.done ?_
          refine WK.len (t := 44) rfl (by simp) (fun hlen_39 => ?_)
          rw [List.length_map] at hlen_39
          generalize hZ_39 : F19_crossroadsref08_Matches_l2 t1 (decide ((x0.MTags.length : Int) = 0)) x0.MTags = Z_39 at hR
          refine WK.forK (fun k s => ∃ (i8 : Nat) (tag7 : Bool), i8 ≤ x0.MTags.length ∧ k = x0.MTags.length - i8 ∧ F19_crossroadsref08_Matches_l2 t1 tag7 (x0.MTags.drop i8) = Z_39 ∧ s = ⟨[(2, .ptr 0 0), (3, .ptr 1 0), (7, .bool tag7), (8, .int .i64 (i8 : Int))], [(0, .box (TClause.c x0)), (1, .box (TRoute.c t1))], 2⟩) x0.MTags.length ⟨⟨[(2, .ptr 0 0), (3, .ptr 1 0), (7, .bool (decide ((x0.MTags.length : Int) = 0))), (8, .int .i64 (0 : Int))], [(0, .box (TClause.c x0)), (1, .box (TRoute.c t1))], 2⟩, Conv.keep [0, 1] [] [2, 3, 7, 8] rfl rfl (viewE_cons rfl rfl (viewE_cons rfl rfl (viewE_cons rfl rfl (viewE_cons rfl rfl viewE_nil)))) rfl rfl, 0, (decide ((x0.MTags.length : Int) = 0)), (by first | omega | ((try simp only [List.length_append, List.length_cons, List.length_nil] at *) <;> omega) | (have hlf := may03_len (by assumption) (by assumption); omega)), rfl, hZ_39, rfl⟩ ?_
          rintro _ _ ⟨i8, tag7, hi_39, rfl, hL_39, rfl⟩ again_39 out_39 Q_39 hagain_39 hout_39 hQ_39
          refine WK.seq ?_
          refine WK.seq ?_
          refine WK.regx mixed ?_
          refine GX.pure (v' := .int .i64 (i8 : Int)) rfl rfl rfl rfl rfl ?_
          refine GX.pure (v' := .ptr 0 6) rfl rfl rfl rfl rfl ?_
          refine GX.pure (v' := .ro 1 (x0.MTags.map c_u32)) rfl rfl rfl rfl rfl ?_
          refine GX.pure (v' := .int .i64 (x0.MTags.length : Int)) rfl rfl rfl rfl (len_map _ _) ?_
          refine GX.pure (v' := .bool (decide ((i8 : Int) < (x0.MTags.length : Int)))) rfl rfl rfl rfl rfl ?_
          refine GX.done ?_
          rcases bool_two (decide ((i8 : Int) < (x0.MTags.length : Int))) with hb40 | hb40
          · rw [hb40]
            rw [drop_end hb40, F19_crossroadsref08_Matches_l2] at hL_39
            refine WK.condF rfl ?_
            refine WK.exit ?_
            refine QF.exit (hout_39 _ ?_)
            subst hL_39
            try dsimp only [cond_true, cond_false] at hR
            refine WK.seq ?_
            refine WK.regx mixed ?_
            refine GX.pure (v' := .bool tag7) rfl rfl rfl rfl rfl ?_
            refine GX.pure (v' := .bool tag7) rfl rfl rfl rfl rfl ?_
            refine GX.done ?_
            refine WK.ret ?_
            subst hR
            exact RetQ.fr [] (.inr rfl) rfl rfl rfl rfl
          · rw [hb40]
            obtain ⟨x8, hx39, hd39, hlt39⟩ := drop_more hb40
            rw [hd39, F19_crossroadsref08_Matches_l2] at hL_39
            refine WK.condT rfl ?_
            refine WK.skip ?_
            refine WK.seq ?_
            refine WK.blockK (fun _ hK41 => ?_)
            refine WK.drawn mixed ?_
            refine RD.pure (v' := .bool tag7) rfl rfl rfl rfl rfl ?_
            refine RD.pure (v' := .bool tag7) rfl rfl rfl rfl rfl ?_
            rcases bool_two (tag7) with hb42 | hb42
            · rw [hb42]; try simp only [hb42, cond_true, cond_false, Bool.true_and, Bool.false_and, Bool.true_or, Bool.false_or, Bool.not_true, Bool.not_false] at hL_39
              refine RD.pure (v' := .ptr 0 6) rfl rfl rfl rfl rfl ?_
              refine RD.pure (v' := .ro 1 (x0.MTags.map c_u32)) rfl rfl rfl rfl rfl ?_
              refine RD.pure (v' := .int .i64 (i8 : Int)) rfl rfl rfl rfl rfl ?_
              refine RD.idxT (c := c_u32) (x := x8) rfl rfl rfl (Int.natCast_nonneg _) hx39 ?_
              refine RD.pure (v' := .int .u32 x8) rfl rfl rfl rfl rfl ?_
              refine RD.pure (v' := .ptr 1 4) rfl rfl rfl rfl rfl ?_
              refine RD.pure (v' := .int .u32 t1.Tag) rfl rfl rfl rfl rfl ?_
              refine RD.pure (v' := .bool (decide (x8 = t1.Tag))) rfl rfl rfl rfl rfl ?_
              refine RD.pure (v' := .bool (decide (x8 = t1.Tag))) rfl rfl rfl rfl rfl ?_
              refine RD.pure (v' := .bool (decide (x8 = t1.Tag))) rfl rfl rfl rfl rfl ?_
              refine RD.done rfl ?_
              refine WK.nil (QF.normal (hK41 _ ?_))
              refine WK.regx mixed ?_
              refine GX.pure (v' := .int .i64 (i8 : Int)) rfl rfl rfl rfl rfl ?_
              refine GX.pure (v' := .int .i64 ((i8 + 1 : Nat) : Int)) rfl rfl rfl rfl (congrArg (PVal.int .i64) (wrap_up hlt39 hlen_39)) ?_
              refine GX.pure (v' := .int .i64 ((i8 + 1 : Nat) : Int)) rfl rfl rfl rfl rfl ?_
              refine GX.done ?_
              refine WK.nil (QF.normal ?_)
              exact hagain_39 _ (x0.MTags.length - (i8 + 1)) ⟨[(2, .ptr 0 0), (3, .ptr 1 0), (7, .bool (decide (x8 = t1.Tag))), (8, .int .i64 ((i8 + 1) : Int))], [(0, .box (TClause.c x0)), (1, .box (TRoute.c t1))], 2⟩ (by first | omega | ((try simp only [List.length_append, List.length_cons, List.length_nil] at *) <;> omega) | (have hlf := may03_len (by assumption) (by assumption); omega)) (Conv.keep [0, 1] [] [2, 3, 7, 8] rfl rfl (viewE_cons rfl rfl (viewE_cons rfl rfl (viewE_cons rfl rfl (viewE_cons rfl rfl viewE_nil)))) rfl rfl) ⟨i8 + 1, (decide (x8 = t1.Tag)), (by first | omega | ((try simp only [List.length_append, List.length_cons, List.length_nil] at *) <;> omega) | (have hlf := may03_len (by assumption) (by assumption); omega)), rfl, hL_39, rfl⟩
            · rw [hb42]; try simp only [hb42, cond_true, cond_false, Bool.true_and, Bool.false_and, Bool.true_or, Bool.false_or, Bool.not_true, Bool.not_false] at hL_39
              refine RD.skip rfl rfl ?_
              refine RD.skip rfl rfl ?_
              refine RD.skip rfl rfl ?_
              refine RD.skip rfl rfl ?_
              refine RD.skip rfl rfl ?_
              refine RD.skip rfl rfl ?_
              refine RD.skip rfl rfl ?_
              refine RD.skip rfl rfl ?_
              refine RD.pure (v' := .bool true) rfl rfl rfl rfl rfl ?_
              refine RD.pure (v' := .bool true) rfl rfl rfl rfl rfl ?_
              refine RD.done rfl ?_
              refine WK.nil (QF.normal (hK41 _ ?_))
              refine WK.regx mixed ?_
              refine GX.pure (v' := .int .i64 (i8 : Int)) rfl rfl rfl rfl rfl ?_
              refine GX.pure (v' := .int .i64 ((i8 + 1 : Nat) : Int)) rfl rfl rfl rfl (congrArg (PVal.int .i64) (wrap_up hlt39 hlen_39)) ?_
              refine GX.pure (v' := .int .i64 ((i8 + 1 : Nat) : Int)) rfl rfl rfl rfl rfl ?_
              refine GX.done ?_
              refine WK.nil (QF.normal ?_)
              exact hagain_39 _ (x0.MTags.length - (i8 + 1)) ⟨[(2, .ptr 0 0), (3, .ptr 1 0), (7, .bool true), (8, .int .i64 ((i8 + 1) : Int))], [(0, .box (TClause.c x0)), (1, .box (TRoute.c t1))], 2⟩ (by first | omega | ((try simp only [List.length_append, List.length_cons, List.length_nil] at *) <;> omega) | (have hlf := may03_len (by assumption) (by assumption); omega)) (Conv.keep [0, 1] [] [2, 3, 7, 8] rfl rfl (viewE_cons rfl rfl (viewE_cons rfl rfl (viewE_cons rfl rfl (viewE_cons rfl rfl viewE_nil)))) rfl rfl) ⟨i8 + 1, true, (by first | omega | ((try simp only [List.length_append, List.length_cons, List.length_nil] at *) <;> omega) | (have hlf := may03_len (by assumption) (by assumption); omega)), rfl, hL_39, rfl⟩

theorem f21_ok (x0 : TClause) (t1 : TRoute) (R : TRoute) (hR : F21_crossroadsref08_Change x0 t1 = R) : FnOk Try.prog 21 [.agg (TClause.c x0), .agg (TRoute.c t1)] [] 0 (.agg (TRoute.c R)) [] 0 := by
  refine FnOk.wk i21 rfl rfl ?_
  unfold F21_crossroadsref08_Change at hR
  change WK _ _ _ [ac21] _ ⟨[(0, .agg (TClause.c x0)), (1, .agg (TRoute.c t1))], [], 0⟩
  unfold ac21
  refine WK.seq ?_
  refine WK.regx mixed ?_
  refine GX.step (v' := .ptr 0 0) (heap' := [(0, .box (TClause.c x0))]) (next' := 1) rfl rfl rfl rfl rfl rfl rfl ?_
  refine GX.step (v' := .ptr 1 0) (heap' := [(0, .box (TClause.c x0)), (1, .box (TRoute.c t1))]) (next' := 2) rfl rfl rfl rfl rfl rfl rfl ?_
  refine GX.step (v' := .ptr 2 0) (heap' := [(0, .box (TClause.c x0)), (1, .box (TRoute.c t1)), (2, .box [.int .u32 0, .int .i64 0, .int .i64 0, .int .i64 0, .int .u32 0])]) (next' := 3) rfl rfl rfl rfl rfl rfl rfl ?_
  refine GX.done ?_
  refine WK.seq ?_
  refine WK.seq ?_
  refine WK.regx mixed ?_
  refine GX.pure (v' := .ptr 0 7) rfl rfl rfl rfl rfl ?_
  refine GX.pure (v' := .int .i64 x0.SCost) rfl rfl rfl rfl rfl ?_
  refine GX.pure (v' := .bool (!decide (x0.SCost = (-1)))) rfl rfl rfl rfl rfl ?_
  refine GX.done ?_
  rcases bool_two (decide (x0.SCost = (-1))) with hb1 | hb1
  · rw [hb1]; try simp only [hb1, cond_true, cond_false, Bool.true_and, Bool.false_and, Bool.true_or, Bool.false_or, Bool.not_true, Bool.not_false] at hR
    refine WK.condT rfl ?_
    refine WK.regx mixed ?_
    refine GX.pure (v' := .ptr 0 7) rfl rfl rfl rfl rfl ?_
    refine GX.pure (v' := .int .i64 x0.SCost) rfl rfl rfl rfl rfl ?_
    refine GX.pure (v' := .ptr 1 3) rfl rfl rfl rfl rfl ?_
    refine GX.step0 (heap' := [(0, .box (TClause.c x0)), (1, .box [.int .u32 t1.P.A, .int .i64 t1.P.N, .int .i64 t1.Kind, .int .i64 x0.SCost, .int .u32 t1.Tag]), (2, .box [.int .u32 0, .int .i64 0, .int .i64 0, .int .i64 0, .int .u32 0])]) (next' := 3) rfl rfl rfl rfl rfl ?_
    refine GX.done ?_
    refine WK.seq ?_
    refine WK.regx mixed ?_
    refine GX.pure (v' := .ptr 1 3) rfl rfl rfl rfl rfl ?_
    refine GX.pure (v' := .int .i64 x0.SCost) rfl rfl rfl rfl rfl ?_
    refine GX.pure (v' := .ptr 0 8) rfl rfl rfl rfl rfl ?_
    refine GX.pure (v' := .int .i64 x0.SPlus) rfl rfl rfl rfl rfl ?_
    refine GX.pure (v' := .int .i64 (IntKind.i64.wrap (x0.SCost + x0.SPlus))) rfl rfl rfl rfl rfl ?_
    refine GX.pure (v' := .int .i64 (min_ (IntKind.i64.wrap (x0.SCost + x0.SPlus)) 16777215)) rfl rfl rfl rfl rfl ?_
    refine GX.pure (v' := .ptr 1 3) rfl rfl rfl rfl rfl ?_
    refine GX.step0 (heap' := [(0, .box (TClause.c x0)), (1, .box [.int .u32 t1.P.A, .int .i64 t1.P.N, .int .i64 t1.Kind, .int .i64 (min_ (IntKind.i64.wrap (x0.SCost + x0.SPlus)) 16777215), .int .u32 t1.Tag]), (2, .box [.int .u32 0, .int .i64 0, .int .i64 0, .int .i64 0, .int .u32 0])]) (next' := 3) rfl rfl rfl rfl rfl ?_
    refine GX.done ?_
    refine WK.seq ?_
    refine WK.seq ?_
    refine WK.regx mixed ?_
    refine GX.pure (v' := .ptr 0 9) rfl rfl rfl rfl rfl ?_
    refine GX.pure (v' := .int .i64 x0.SKind) rfl rfl rfl rfl rfl ?_
    refine GX.pure (v' := .bool (!decide (x0.SKind = (-1)))) rfl rfl rfl rfl rfl ?_
    refine GX.done ?_
    rcases bool_two (decide (x0.SKind = (-1))) with hb2 | hb2
    · rw [hb2]; try simp only [hb2, cond_true, cond_false, Bool.true_and, Bool.false_and, Bool.true_or, Bool.false_or, Bool.not_true, Bool.not_false] at hR
      refine WK.condT rfl ?_
      refine WK.regx mixed ?_
      refine GX.pure (v' := .ptr 0 9) rfl rfl rfl rfl rfl ?_
      refine GX.pure (v' := .int .i64 x0.SKind) rfl rfl rfl rfl rfl ?_
      refine GX.pure (v' := .ptr 1 2) rfl rfl rfl rfl rfl ?_
      refine GX.step0 (heap' := [(0, .box (TClause.c x0)), (1, .box [.int .u32 t1.P.A, .int .i64 t1.P.N, .int .i64 x0.SKind, .int .i64 (min_ (IntKind.i64.wrap (x0.SCost + x0.SPlus)) 16777215), .int .u32 t1.Tag]), (2, .box [.int .u32 0, .int .i64 0, .int .i64 0, .int .i64 0, .int .u32 0])]) (next' := 3) rfl rfl rfl rfl rfl ?_
      refine GX.done ?_
      refine WK.seq ?_
      refine WK.seq ?_
      refine WK.regx mixed ?_
      refine GX.pure (v' := .ptr 0 10) rfl rfl rfl rfl rfl ?_
      refine GX.pure (v' := .bool x0.SetTag) rfl rfl rfl rfl rfl ?_
      refine GX.done ?_
      rcases bool_two (x0.SetTag) with hb3 | hb3
      · rw [hb3]; try simp only [hb3, cond_true, cond_false, Bool.true_and, Bool.false_and, Bool.true_or, Bool.false_or, Bool.not_true, Bool.not_false] at hR
        refine WK.condF rfl ?_
        refine WK.skip ?_
        refine WK.seq ?_
        refine WK.regx mixed ?_
        refine GX.pure (v' := .agg [.int .u32 t1.P.A, .int .i64 t1.P.N, .int .i64 x0.SKind, .int .i64 (min_ (IntKind.i64.wrap (x0.SCost + x0.SPlus)) 16777215), .int .u32 t1.Tag]) rfl rfl rfl rfl rfl ?_
        refine GX.step0 (heap' := [(0, .box (TClause.c x0)), (1, .box [.int .u32 t1.P.A, .int .i64 t1.P.N, .int .i64 x0.SKind, .int .i64 (min_ (IntKind.i64.wrap (x0.SCost + x0.SPlus)) 16777215), .int .u32 t1.Tag]), (2, .box [.int .u32 t1.P.A, .int .i64 t1.P.N, .int .i64 x0.SKind, .int .i64 (min_ (IntKind.i64.wrap (x0.SCost + x0.SPlus)) 16777215), .int .u32 t1.Tag])]) (next' := 3) rfl rfl rfl rfl rfl ?_
        refine GX.done ?_
        refine WK.ret ?_
        subst hR
        exact RetQ.fr [] (.inr rfl) rfl rfl rfl rfl
      · rw [hb3]; try simp only [hb3, cond_true, cond_false, Bool.true_and, Bool.false_and, Bool.true_or, Bool.false_or, Bool.not_true, Bool.not_false] at hR
        refine WK.condT rfl ?_
        refine WK.regx mixed ?_
        refine GX.pure (v' := .ptr 0 11) rfl rfl rfl rfl rfl ?_
        refine GX.pure (v' := .int .u32 x0.STag) rfl rfl rfl rfl rfl ?_
        refine GX.pure (v' := .ptr 1 4) rfl rfl rfl rfl rfl ?_
        refine GX.step0 (heap' := [(0, .box (TClause.c x0)), (1, .box [.int .u32 t1.P.A, .int .i64 t1.P.N, .int .i64 x0.SKind, .int .i64 (min_ (IntKind.i64.wrap (x0.SCost + x0.SPlus)) 16777215), .int .u32 x0.STag]), (2, .box [.int .u32 0, .int .i64 0, .int .i64 0, .int .i64 0, .int .u32 0])]) (next' := 3) rfl rfl rfl rfl rfl ?_
        refine GX.done ?_
        refine WK.seq ?_
        refine WK.regx mixed ?_
        refine GX.pure (v' := .agg [.int .u32 t1.P.A, .int .i64 t1.P.N, .int .i64 x0.SKind, .int .i64 (min_ (IntKind.i64.wrap (x0.SCost + x0.SPlus)) 16777215), .int .u32 x0.STag]) rfl rfl rfl rfl rfl ?_
        refine GX.step0 (heap' := [(0, .box (TClause.c x0)), (1, .box [.int .u32 t1.P.A, .int .i64 t1.P.N, .int .i64 x0.SKind, .int .i64 (min_ (IntKind.i64.wrap (x0.SCost + x0.SPlus)) 16777215), .int .u32 x0.STag]), (2, .box [.int .u32 t1.P.A, .int .i64 t1.P.N, .int .i64 x0.SKind, .int .i64 (min_ (IntKind.i64.wrap (x0.SCost + x0.SPlus)) 16777215), .int .u32 x0.STag])]) (next' := 3) rfl rfl rfl rfl rfl ?_
        refine GX.done ?_
        refine WK.ret ?_
        subst hR
        exact RetQ.fr [] (.inr rfl) rfl rfl rfl rfl
    · rw [hb2]; try simp only [hb2, cond_true, cond_false, Bool.true_and, Bool.false_and, Bool.true_or, Bool.false_or, Bool.not_true, Bool.not_false] at hR
      refine WK.condF rfl ?_
      refine WK.skip ?_
      refine WK.seq ?_
      refine WK.seq ?_
      refine WK.regx mixed ?_
      refine GX.pure (v' := .ptr 0 10) rfl rfl rfl rfl rfl ?_
      refine GX.pure (v' := .bool x0.SetTag) rfl rfl rfl rfl rfl ?_
      refine GX.done ?_
      rcases bool_two (x0.SetTag) with hb4 | hb4
      · rw [hb4]; try simp only [hb4, cond_true, cond_false, Bool.true_and, Bool.false_and, Bool.true_or, Bool.false_or, Bool.not_true, Bool.not_false] at hR
        refine WK.condF rfl ?_
        refine WK.skip ?_
        refine WK.seq ?_
        refine WK.regx mixed ?_
        refine GX.pure (v' := .agg [.int .u32 t1.P.A, .int .i64 t1.P.N, .int .i64 t1.Kind, .int .i64 (min_ (IntKind.i64.wrap (x0.SCost + x0.SPlus)) 16777215), .int .u32 t1.Tag]) rfl rfl rfl rfl rfl ?_
        refine GX.step0 (heap' := [(0, .box (TClause.c x0)), (1, .box [.int .u32 t1.P.A, .int .i64 t1.P.N, .int .i64 t1.Kind, .int .i64 (min_ (IntKind.i64.wrap (x0.SCost + x0.SPlus)) 16777215), .int .u32 t1.Tag]), (2, .box [.int .u32 t1.P.A, .int .i64 t1.P.N, .int .i64 t1.Kind, .int .i64 (min_ (IntKind.i64.wrap (x0.SCost + x0.SPlus)) 16777215), .int .u32 t1.Tag])]) (next' := 3) rfl rfl rfl rfl rfl ?_
        refine GX.done ?_
        refine WK.ret ?_
        subst hR
        exact RetQ.fr [] (.inr rfl) rfl rfl rfl rfl
      · rw [hb4]; try simp only [hb4, cond_true, cond_false, Bool.true_and, Bool.false_and, Bool.true_or, Bool.false_or, Bool.not_true, Bool.not_false] at hR
        refine WK.condT rfl ?_
        refine WK.regx mixed ?_
        refine GX.pure (v' := .ptr 0 11) rfl rfl rfl rfl rfl ?_
        refine GX.pure (v' := .int .u32 x0.STag) rfl rfl rfl rfl rfl ?_
        refine GX.pure (v' := .ptr 1 4) rfl rfl rfl rfl rfl ?_
        refine GX.step0 (heap' := [(0, .box (TClause.c x0)), (1, .box [.int .u32 t1.P.A, .int .i64 t1.P.N, .int .i64 t1.Kind, .int .i64 (min_ (IntKind.i64.wrap (x0.SCost + x0.SPlus)) 16777215), .int .u32 x0.STag]), (2, .box [.int .u32 0, .int .i64 0, .int .i64 0, .int .i64 0, .int .u32 0])]) (next' := 3) rfl rfl rfl rfl rfl ?_
        refine GX.done ?_
        refine WK.seq ?_
        refine WK.regx mixed ?_
        refine GX.pure (v' := .agg [.int .u32 t1.P.A, .int .i64 t1.P.N, .int .i64 t1.Kind, .int .i64 (min_ (IntKind.i64.wrap (x0.SCost + x0.SPlus)) 16777215), .int .u32 x0.STag]) rfl rfl rfl rfl rfl ?_
        refine GX.step0 (heap' := [(0, .box (TClause.c x0)), (1, .box [.int .u32 t1.P.A, .int .i64 t1.P.N, .int .i64 t1.Kind, .int .i64 (min_ (IntKind.i64.wrap (x0.SCost + x0.SPlus)) 16777215), .int .u32 x0.STag]), (2, .box [.int .u32 t1.P.A, .int .i64 t1.P.N, .int .i64 t1.Kind, .int .i64 (min_ (IntKind.i64.wrap (x0.SCost + x0.SPlus)) 16777215), .int .u32 x0.STag])]) (next' := 3) rfl rfl rfl rfl rfl ?_
        refine GX.done ?_
        refine WK.ret ?_
        subst hR
        exact RetQ.fr [] (.inr rfl) rfl rfl rfl rfl
  · rw [hb1]; try simp only [hb1, cond_true, cond_false, Bool.true_and, Bool.false_and, Bool.true_or, Bool.false_or, Bool.not_true, Bool.not_false] at hR
    refine WK.condF rfl ?_
    refine WK.skip ?_
    refine WK.seq ?_
    refine WK.regx mixed ?_
    refine GX.pure (v' := .ptr 1 3) rfl rfl rfl rfl rfl ?_
    refine GX.pure (v' := .int .i64 t1.Cost) rfl rfl rfl rfl rfl ?_
    refine GX.pure (v' := .ptr 0 8) rfl rfl rfl rfl rfl ?_
    refine GX.pure (v' := .int .i64 x0.SPlus) rfl rfl rfl rfl rfl ?_
    refine GX.pure (v' := .int .i64 (IntKind.i64.wrap (t1.Cost + x0.SPlus))) rfl rfl rfl rfl rfl ?_
    refine GX.pure (v' := .int .i64 (min_ (IntKind.i64.wrap (t1.Cost + x0.SPlus)) 16777215)) rfl rfl rfl rfl rfl ?_
    refine GX.pure (v' := .ptr 1 3) rfl rfl rfl rfl rfl ?_
    refine GX.step0 (heap' := [(0, .box (TClause.c x0)), (1, .box [.int .u32 t1.P.A, .int .i64 t1.P.N, .int .i64 t1.Kind, .int .i64 (min_ (IntKind.i64.wrap (t1.Cost + x0.SPlus)) 16777215), .int .u32 t1.Tag]), (2, .box [.int .u32 0, .int .i64 0, .int .i64 0, .int .i64 0, .int .u32 0])]) (next' := 3) rfl rfl rfl rfl rfl ?_
    refine GX.done ?_
    refine WK.seq ?_
    refine WK.seq ?_
    refine WK.regx mixed ?_
    refine GX.pure (v' := .ptr 0 9) rfl rfl rfl rfl rfl ?_
    refine GX.pure (v' := .int .i64 x0.SKind) rfl rfl rfl rfl rfl ?_
    refine GX.pure (v' := .bool (!decide (x0.SKind = (-1)))) rfl rfl rfl rfl rfl ?_
    refine GX.done ?_
    rcases bool_two (decide (x0.SKind = (-1))) with hb5 | hb5
    · rw [hb5]; try simp only [hb5, cond_true, cond_false, Bool.true_and, Bool.false_and, Bool.true_or, Bool.false_or, Bool.not_true, Bool.not_false] at hR
      refine WK.condT rfl ?_
      refine WK.regx mixed ?_
      refine GX.pure (v' := .ptr 0 9) rfl rfl rfl rfl rfl ?_
      refine GX.pure (v' := .int .i64 x0.SKind) rfl rfl rfl rfl rfl ?_
      refine GX.pure (v' := .ptr 1 2) rfl rfl rfl rfl rfl ?_
      refine GX.step0 (heap' := [(0, .box (TClause.c x0)), (1, .box [.int .u32 t1.P.A, .int .i64 t1.P.N, .int .i64 x0.SKind, .int .i64 (min_ (IntKind.i64.wrap (t1.Cost + x0.SPlus)) 16777215), .int .u32 t1.Tag]), (2, .box [.int .u32 0, .int .i64 0, .int .i64 0, .int .i64 0, .int .u32 0])]) (next' := 3) rfl rfl rfl rfl rfl ?_
      refine GX.done ?_
      refine WK.seq ?_
      refine WK.seq ?_
      refine WK.regx mixed ?_
      refine GX.pure (v' := .ptr 0 10) rfl rfl rfl rfl rfl ?_
      refine GX.pure (v' := .bool x0.SetTag) rfl rfl rfl rfl rfl ?_
      refine GX.done ?_
      rcases bool_two (x0.SetTag) with hb6 | hb6
      · rw [hb6]; try simp only [hb6, cond_true, cond_false, Bool.true_and, Bool.false_and, Bool.true_or, Bool.false_or, Bool.not_true, Bool.not_false] at hR
        refine WK.condF rfl ?_
        refine WK.skip ?_
        refine WK.seq ?_
        refine WK.regx mixed ?_
        refine GX.pure (v' := .agg [.int .u32 t1.P.A, .int .i64 t1.P.N, .int .i64 x0.SKind, .int .i64 (min_ (IntKind.i64.wrap (t1.Cost + x0.SPlus)) 16777215), .int .u32 t1.Tag]) rfl rfl rfl rfl rfl ?_
        refine GX.step0 (heap' := [(0, .box (TClause.c x0)), (1, .box [.int .u32 t1.P.A, .int .i64 t1.P.N, .int .i64 x0.SKind, .int .i64 (min_ (IntKind.i64.wrap (t1.Cost + x0.SPlus)) 16777215), .int .u32 t1.Tag]), (2, .box [.int .u32 t1.P.A, .int .i64 t1.P.N, .int .i64 x0.SKind, .int .i64 (min_ (IntKind.i64.wrap (t1.Cost + x0.SPlus)) 16777215), .int .u32 t1.Tag])]) (next' := 3) rfl rfl rfl rfl rfl ?_
        refine GX.done ?_
        refine WK.ret ?_
        subst hR
        exact RetQ.fr [] (.inr rfl) rfl rfl rfl rfl
      · rw [hb6]; try simp only [hb6, cond_true, cond_false, Bool.true_and, Bool.false_and, Bool.true_or, Bool.false_or, Bool.not_true, Bool.not_false] at hR
        refine WK.condT rfl ?_
        refine WK.regx mixed ?_
        refine GX.pure (v' := .ptr 0 11) rfl rfl rfl rfl rfl ?_
        refine GX.pure (v' := .int .u32 x0.STag) rfl rfl rfl rfl rfl ?_
        refine GX.pure (v' := .ptr 1 4) rfl rfl rfl rfl rfl ?_
        refine GX.step0 (heap' := [(0, .box (TClause.c x0)), (1, .box [.int .u32 t1.P.A, .int .i64 t1.P.N, .int .i64 x0.SKind, .int .i64 (min_ (IntKind.i64.wrap (t1.Cost + x0.SPlus)) 16777215), .int .u32 x0.STag]), (2, .box [.int .u32 0, .int .i64 0, .int .i64 0, .int .i64 0, .int .u32 0])]) (next' := 3) rfl rfl rfl rfl rfl ?_
        refine GX.done ?_
        refine WK.seq ?_
        refine WK.regx mixed ?_
        refine GX.pure (v' := .agg [.int .u32 t1.P.A, .int .i64 t1.P.N, .int .i64 x0.SKind, .int .i64 (min_ (IntKind.i64.wrap (t1.Cost + x0.SPlus)) 16777215), .int .u32 x0.STag]) rfl rfl rfl rfl rfl ?_
        refine GX.step0 (heap' := [(0, .box (TClause.c x0)), (1, .box [.int .u32 t1.P.A, .int .i64 t1.P.N, .int .i64 x0.SKind, .int .i64 (min_ (IntKind.i64.wrap (t1.Cost + x0.SPlus)) 16777215), .int .u32 x0.STag]), (2, .box [.int .u32 t1.P.A, .int .i64 t1.P.N, .int .i64 x0.SKind, .int .i64 (min_ (IntKind.i64.wrap (t1.Cost + x0.SPlus)) 16777215), .int .u32 x0.STag])]) (next' := 3) rfl rfl rfl rfl rfl ?_
        refine GX.done ?_
        refine WK.ret ?_
        subst hR
        exact RetQ.fr [] (.inr rfl) rfl rfl rfl rfl
    · rw [hb5]; try simp only [hb5, cond_true, cond_false, Bool.true_and, Bool.false_and, Bool.true_or, Bool.false_or, Bool.not_true, Bool.not_false] at hR
      refine WK.condF rfl ?_
      refine WK.skip ?_
      refine WK.seq ?_
      refine WK.seq ?_
      refine WK.regx mixed ?_
      refine GX.pure (v' := .ptr 0 10) rfl rfl rfl rfl rfl ?_
      refine GX.pure (v' := .bool x0.SetTag) rfl rfl rfl rfl rfl ?_
      refine GX.done ?_
      rcases bool_two (x0.SetTag) with hb7 | hb7
      · rw [hb7]; try simp only [hb7, cond_true, cond_false, Bool.true_and, Bool.false_and, Bool.true_or, Bool.false_or, Bool.not_true, Bool.not_false] at hR
        refine WK.condF rfl ?_
        refine WK.skip ?_
        refine WK.seq ?_
        refine WK.regx mixed ?_
        refine GX.pure (v' := .agg [.int .u32 t1.P.A, .int .i64 t1.P.N, .int .i64 t1.Kind, .int .i64 (min_ (IntKind.i64.wrap (t1.Cost + x0.SPlus)) 16777215), .int .u32 t1.Tag]) rfl rfl rfl rfl rfl ?_
        refine GX.step0 (heap' := [(0, .box (TClause.c x0)), (1, .box [.int .u32 t1.P.A, .int .i64 t1.P.N, .int .i64 t1.Kind, .int .i64 (min_ (IntKind.i64.wrap (t1.Cost + x0.SPlus)) 16777215), .int .u32 t1.Tag]), (2, .box [.int .u32 t1.P.A, .int .i64 t1.P.N, .int .i64 t1.Kind, .int .i64 (min_ (IntKind.i64.wrap (t1.Cost + x0.SPlus)) 16777215), .int .u32 t1.Tag])]) (next' := 3) rfl rfl rfl rfl rfl ?_
        refine GX.done ?_
        refine WK.ret ?_
        subst hR
        exact RetQ.fr [] (.inr rfl) rfl rfl rfl rfl
      · rw [hb7]; try simp only [hb7, cond_true, cond_false, Bool.true_and, Bool.false_and, Bool.true_or, Bool.false_or, Bool.not_true, Bool.not_false] at hR
        refine WK.condT rfl ?_
        refine WK.regx mixed ?_
        refine GX.pure (v' := .ptr 0 11) rfl rfl rfl rfl rfl ?_
        refine GX.pure (v' := .int .u32 x0.STag) rfl rfl rfl rfl rfl ?_
        refine GX.pure (v' := .ptr 1 4) rfl rfl rfl rfl rfl ?_
        refine GX.step0 (heap' := [(0, .box (TClause.c x0)), (1, .box [.int .u32 t1.P.A, .int .i64 t1.P.N, .int .i64 t1.Kind, .int .i64 (min_ (IntKind.i64.wrap (t1.Cost + x0.SPlus)) 16777215), .int .u32 x0.STag]), (2, .box [.int .u32 0, .int .i64 0, .int .i64 0, .int .i64 0, .int .u32 0])]) (next' := 3) rfl rfl rfl rfl rfl ?_
        refine GX.done ?_
        refine WK.seq ?_
        refine WK.regx mixed ?_
        refine GX.pure (v' := .agg [.int .u32 t1.P.A, .int .i64 t1.P.N, .int .i64 t1.Kind, .int .i64 (min_ (IntKind.i64.wrap (t1.Cost + x0.SPlus)) 16777215), .int .u32 x0.STag]) rfl rfl rfl rfl rfl ?_
        refine GX.step0 (heap' := [(0, .box (TClause.c x0)), (1, .box [.int .u32 t1.P.A, .int .i64 t1.P.N, .int .i64 t1.Kind, .int .i64 (min_ (IntKind.i64.wrap (t1.Cost + x0.SPlus)) 16777215), .int .u32 x0.STag]), (2, .box [.int .u32 t1.P.A, .int .i64 t1.P.N, .int .i64 t1.Kind, .int .i64 (min_ (IntKind.i64.wrap (t1.Cost + x0.SPlus)) 16777215), .int .u32 x0.STag])]) (next' := 3) rfl rfl rfl rfl rfl ?_
        refine GX.done ?_
        refine WK.ret ?_
        subst hR
        exact RetQ.fr [] (.inr rfl) rfl rfl rfl rfl

end Go.Proofs.Ytagiapphmkdnmaa.Abs
