/- The functions walked: each computes its Lean function (printed by this work's own program gen.py). -/
import Derived.Test.YtlemcljcmfphcaaSz
import Derived.Test.YtlemcljcmfphcaaW1
set_option linter.unusedVariables false
set_option linter.unusedSimpArgs false
set_option maxRecDepth 10000
set_option maxHeartbeats 4000000
namespace Go.Proofs.Ytlemcljcmfphcaa.Abs
open Go

theorem f18_ok (w0 : TWorld) (b1 : TBorder) (p2 : TPrefix) (hp0 : InvW w0) (R : TWorld × Bool × Int) (hR : F18_crossroadsref28_Tell w0 b1 p2 = R) : FnOk Try.prog 18 [.agg (TWorld.c w0), .agg (TBorder.c b1), .agg (TPrefix.c p2)] [] 0 (.tup [.agg (TWorld.c R.1), .bool R.2.1, .int .i64 R.2.2]) [] 0 := by
 refine FnOk.wk i18 rfl rfl ?_
 unfold F18_crossroadsref28_Tell at hR
 change WK _ _ _ [ac18] _ ⟨[(0, .agg (TWorld.c w0)), (1, .agg (TBorder.c b1)), (2, .agg (TPrefix.c p2))], [], 0⟩
 unfold ac18
 refine WK.sr mixed ?_
 refine GX.step (v' := .ptr 0 0) (heap' := [(0, .box (TWorld.c w0))]) (next' := 1) rfl rfl rfl rfl rfl rfl rfl ?_
 refine GX.step (v' := .ptr 1 0) (heap' := [(0, .box (TWorld.c w0)), (1, .box (TBorder.c b1))]) (next' := 2) rfl rfl rfl rfl rfl rfl rfl ?_
 refine GX.step (v' := .ptr 2 0) (heap' := [(0, .box (TWorld.c w0)), (1, .box (TBorder.c b1)), (2, .box (TPrefix.c p2))]) (next' := 3) rfl rfl rfl rfl rfl rfl rfl ?_
 refine GX.step (v' := .ptr 3 0) (heap' := [(0, .box (TWorld.c w0)), (1, .box (TBorder.c b1)), (2, .box (TPrefix.c p2)), (3, .box [.nils])]) (next' := 4) rfl rfl rfl rfl rfl rfl rfl ?_
 refine GX.m rfl ?_
 refine GX.m rfl ?_
 refine GX.done ?_
 refine WK.seq ?_
 refine WK.sr mixed ?_
 refine GX.q (.ptr 1 0) ?_
 refine GX.q (.int .i64 b1.From) ?_
 refine GX.q (.bool (decide (b1.From < 0))) ?_
 refine GX.m rfl ?_
 rcases bool_two (decide (b1.From < 0)) with hb1 | hb1
 ·rw [hb1]; try simp only [hb1, cond_true, cond_false, Bool.true_and, Bool.false_and, Bool.true_or, Bool.false_or, Bool.not_true, Bool.not_false] at hR
  refine GX.q (.ptr 1 0) ?_
  refine GX.q (.int .i64 b1.From) ?_
  refine GX.q (.ptr 0 0) ?_
  refine GX.q (.ro 3 (w0.D.map TDomain.c)) ?_
  refine GX.pure (v' := .int .i64 (w0.D.length : Int)) rfl rfl rfl rfl (len_map _ _) ?_
  refine GX.q (.bool (decide ((w0.D.length : Int) ≤ b1.From))) ?_
  refine GX.q (.bool (decide ((w0.D.length : Int) ≤ b1.From))) ?_
  refine GX.m rfl ?_
  rcases bool_two (decide ((w0.D.length : Int) ≤ b1.From)) with hb2 | hb2
  ·rw [hb2]; try simp only [hb2, cond_true, cond_false, Bool.true_and, Bool.false_and, Bool.true_or, Bool.false_or, Bool.not_true, Bool.not_false] at hR
   refine GX.q (.ptr 1 1) ?_
   refine GX.q (.int .i64 b1.To) ?_
   refine GX.q (.bool (decide (b1.To < 0))) ?_
   refine GX.q (.bool (decide (b1.To < 0))) ?_
   refine GX.m rfl ?_
   rcases bool_two (decide (b1.To < 0)) with hb3 | hb3
   ·rw [hb3]; try simp only [hb3, cond_true, cond_false, Bool.true_and, Bool.false_and, Bool.true_or, Bool.false_or, Bool.not_true, Bool.not_false] at hR
    refine GX.q (.ptr 1 1) ?_
    refine GX.q (.int .i64 b1.To) ?_
    refine GX.q (.ptr 0 0) ?_
    refine GX.q (.ro 3 (w0.D.map TDomain.c)) ?_
    refine GX.pure (v' := .int .i64 (w0.D.length : Int)) rfl rfl rfl rfl (len_map _ _) ?_
    refine GX.q (.bool (decide ((w0.D.length : Int) ≤ b1.To))) ?_
    refine GX.q (.bool (decide ((w0.D.length : Int) ≤ b1.To))) ?_
    refine GX.m rfl ?_
    rcases bool_two (decide ((w0.D.length : Int) ≤ b1.To)) with hb4 | hb4
    ·rw [hb4]; try simp only [hb4, cond_true, cond_false, Bool.true_and, Bool.false_and, Bool.true_or, Bool.false_or, Bool.not_true, Bool.not_false] at hR
     refine GX.q (.ptr 1 0) ?_
     refine GX.q (.int .i64 b1.From) ?_
     refine GX.q (.ptr 1 1) ?_
     refine GX.q (.int .i64 b1.To) ?_
     refine GX.q (.bool (decide (b1.From = b1.To))) ?_
     refine GX.q (.bool (decide (b1.From = b1.To))) ?_
     refine GX.m rfl ?_
     rcases bool_two (decide (b1.From = b1.To)) with hb5 | hb5
     ·rw [hb5]; try simp only [hb5, cond_true, cond_false, Bool.true_and, Bool.false_and, Bool.true_or, Bool.false_or, Bool.not_true, Bool.not_false] at hR
      refine GX.q (.agg (TPrefix.c p2)) ?_
      generalize hc47 : F37_crossroadsref03_May p2 = c47 at hR
      try dsimp only at hR
      refine GX.callp (r := .bool c47) rfl rfl rfl (f37_ok p2 _ hc47) rfl rfl ?_
      refine GX.q (.bool (!c47)) ?_
      refine GX.q (.bool (!c47)) ?_
      refine GX.done ?_
      rcases bool_two (c47) with hb6 | hb6
      ·rw [hb6]; try simp only [hb6, cond_true, cond_false, Bool.true_and, Bool.false_and, Bool.true_or, Bool.false_or, Bool.not_true, Bool.not_false] at hR
       refine WK.condT rfl ?_
       refine WK.sr mixed ?_
       refine GX.q (.agg (TWorld.c w0)) ?_
       refine GX.step0 (heap' := [(0, .box (TWorld.c w0)), (1, .box (TBorder.c b1)), (2, .box (TPrefix.c p2)), (3, .box (TWorld.c w0))]) (next' := 4) rfl rfl rfl rfl rfl ?_
       refine GX.m rfl ?_
       refine GX.m rfl ?_
       refine GX.done ?_
       refine WK.ret ?_
       subst hR
       exact RetQ.fr [] (.inr rfl) rfl rfl rfl rfl
      ·rw [hb6]; try simp only [hb6, cond_true, cond_false, Bool.true_and, Bool.false_and, Bool.true_or, Bool.false_or, Bool.not_true, Bool.not_false] at hR
       refine WK.condF rfl ?_
       refine WK.skip ?_
       refine WK.sr mixed ?_
       refine GX.q (.agg (TWorld.c w0)) ?_
       refine GX.q (.ptr 1 0) ?_
       refine GX.q (.int .i64 b1.From) ?_
       refine GX.q (.agg (TPrefix.c p2)) ?_
       generalize hc56 : F22_crossroadsref28_Has w0 b1.From p2 = c56 at hR
       obtain ⟨c56a, c56b⟩ := c56; try dsimp only at hR
       refine GX.callp (r := .tup [.agg [.int .u32 c56a.P.A, .int .i64 c56a.P.N, .int .u32 c56a.Tag, .bool c56a.Marked], .bool c56b]) rfl rfl rfl (f22_ok w0 b1.From p2 _ hc56) rfl rfl ?_
       refine GX.m rfl ?_
       refine GX.q (.agg [.int .u32 c56a.P.A, .int .i64 c56a.P.N, .int .u32 c56a.Tag, .bool c56a.Marked]) ?_
       refine GX.q (.bool c56b) ?_
       refine GX.step (v' := .ptr 4 0) (heap' := [(0, .box (TWorld.c w0)), (1, .box (TBorder.c b1)), (2, .box (TPrefix.c p2)), (3, .box [.nils]), (4, .box [.int .u32 0, .int .i64 0, .int .u32 0, .bool false])]) (next' := 5) rfl rfl rfl rfl rfl rfl rfl ?_
       refine GX.step0 (heap' := [(0, .box (TWorld.c w0)), (1, .box (TBorder.c b1)), (2, .box (TPrefix.c p2)), (3, .box [.nils]), (4, .box (TExt.c c56a))]) (next' := 5) rfl rfl rfl rfl rfl ?_
       refine GX.m rfl ?_
       refine GX.done ?_
       refine WK.sr mixed ?_
       refine GX.q (.ptr 0 0) ?_
       refine GX.q (.ro 3 (w0.D.map TDomain.c)) ?_
       refine GX.q (.ptr 1 1) ?_
       refine GX.q (.int .i64 b1.To) ?_
       refine GX.idxT (c := TDomain.c) (x := (w0.D.getD b1.To.toNat default)) rfl rfl rfl (by ((try simp only [decide_eq_true_eq, decide_eq_false_iff_not, Bool.not_eq_true, Bool.not_eq_false] at *); first | omega | (rw [wrap64_of (by omega) (by omega)]; omega) | (unfold min_ max_; (repeat' split) <;> first | omega | (rw [wrap64_of (by omega) (by omega)]; omega)))) (getD_at (by ((try simp only [decide_eq_true_eq, decide_eq_false_iff_not, Bool.not_eq_true, Bool.not_eq_false] at *); first | omega | (rw [wrap64_of (by omega) (by omega)]; omega) | (unfold min_ max_; (repeat' split) <;> first | omega | (rw [wrap64_of (by omega) (by omega)]; omega))))) ?_
       refine GX.q (.agg [.int .u32 ((w0.D.getD b1.To.toNat default).Tag), .ro 2 (((w0.D.getD b1.To.toNat default).In).map TPrefix.c), .ro 4 (((w0.D.getD b1.To.toNat default).Ext).map TExt.c)]) ?_
       refine GX.step (v' := .ptr 5 0) (heap' := [(0, .box (TWorld.c w0)), (1, .box (TBorder.c b1)), (2, .box (TPrefix.c p2)), (3, .box [.nils]), (4, .box (TExt.c c56a)), (5, .box [.int .u32 0, .nils, .nils])]) (next' := 6) rfl rfl rfl rfl rfl rfl rfl ?_
       refine GX.step0 (heap' := [(0, .box (TWorld.c w0)), (1, .box (TBorder.c b1)), (2, .box (TPrefix.c p2)), (3, .box [.nils]), (4, .box (TExt.c c56a)), (5, .box [.int .u32 ((w0.D.getD b1.To.toNat default).Tag), .ro 2 (((w0.D.getD b1.To.toNat default).In).map TPrefix.c), .ro 4 (((w0.D.getD b1.To.toNat default).Ext).map TExt.c)])]) (next' := 6) rfl rfl rfl rfl rfl ?_
       refine GX.done ?_
       refine WK.seq ?_
       refine WK.sr mixed ?_
       refine GX.m rfl ?_
       refine GX.q (.bool (!c56b)) ?_
       refine GX.m rfl ?_
       rcases bool_two (c56b) with hb7 | hb7
       ·rw [hb7]; try simp only [hb7, cond_true, cond_false, Bool.true_and, Bool.false_and, Bool.true_or, Bool.false_or, Bool.not_true, Bool.not_false] at hR
        refine GX.skip rfl rfl ?_
        refine GX.skip rfl rfl ?_
        refine GX.skip rfl rfl ?_
        refine GX.skip rfl rfl ?_
        refine GX.skip rfl rfl ?_
        refine GX.q (.bool true) ?_
        refine GX.m rfl ?_
        refine GX.skip rfl rfl ?_
        refine GX.skip rfl rfl ?_
        refine GX.skip rfl rfl ?_
        refine GX.skip rfl rfl ?_
        refine GX.skip rfl rfl ?_
        refine GX.skip rfl rfl ?_
        refine GX.q (.bool true) ?_
        refine GX.m rfl ?_
        refine GX.skip rfl rfl ?_
        refine GX.skip rfl rfl ?_
        refine GX.skip rfl rfl ?_
        refine GX.q (.bool true) ?_
        refine GX.done ?_
        refine WK.condT rfl ?_
        refine WK.sr mixed ?_
        refine GX.q (.agg (TWorld.c w0)) ?_
        refine GX.step0 (heap' := [(0, .box (TWorld.c w0)), (1, .box (TBorder.c b1)), (2, .box (TPrefix.c p2)), (3, .box (TWorld.c w0)), (4, .box (TExt.c c56a)), (5, .box [.int .u32 ((w0.D.getD b1.To.toNat default).Tag), .ro 2 (((w0.D.getD b1.To.toNat default).In).map TPrefix.c), .ro 4 (((w0.D.getD b1.To.toNat default).Ext).map TExt.c)])]) (next' := 6) rfl rfl rfl rfl rfl ?_
        refine GX.m rfl ?_
        refine GX.m rfl ?_
        refine GX.done ?_
        refine WK.ret ?_
        subst hR
        exact RetQ.fr [] (.inr rfl) rfl rfl rfl rfl
       ·rw [hb7]; try simp only [hb7, cond_true, cond_false, Bool.true_and, Bool.false_and, Bool.true_or, Bool.false_or, Bool.not_true, Bool.not_false] at hR
        refine GX.q (.ptr 4 2) ?_
        refine GX.q (.int .u32 c56a.Tag) ?_
        refine GX.q (.ptr 5 0) ?_
        refine GX.q (.int .u32 ((w0.D.getD b1.To.toNat default).Tag)) ?_
        refine GX.q (.bool (decide (c56a.Tag = (w0.D.getD b1.To.toNat default).Tag))) ?_
        refine GX.q (.bool (decide (c56a.Tag = (w0.D.getD b1.To.toNat default).Tag))) ?_
        refine GX.m rfl ?_
        rcases bool_two (decide (c56a.Tag = (w0.D.getD b1.To.toNat default).Tag)) with hb8 | hb8
        ·rw [hb8]; try simp only [hb8, cond_true, cond_false, Bool.true_and, Bool.false_and, Bool.true_or, Bool.false_or, Bool.not_true, Bool.not_false] at hR
         refine GX.q (.ptr 1 2) ?_
         refine GX.q (.bool b1.Provider) ?_
         refine GX.m rfl ?_
         rcases bool_two (b1.Provider) with hb9 | hb9
         ·rw [hb9]; try simp only [hb9, cond_true, cond_false, Bool.true_and, Bool.false_and, Bool.true_or, Bool.false_or, Bool.not_true, Bool.not_false] at hR
          refine GX.skip rfl rfl ?_
          refine GX.skip rfl rfl ?_
          refine GX.q (.bool false) ?_
          refine GX.q (.bool false) ?_
          refine GX.m rfl ?_
          refine GX.q (.agg [.int .u32 ((w0.D.getD b1.To.toNat default).Tag), .ro 2 (((w0.D.getD b1.To.toNat default).In).map TPrefix.c), .ro 4 (((w0.D.getD b1.To.toNat default).Ext).map TExt.c)]) ?_
          refine GX.q (.agg (TPrefix.c p2)) ?_
          generalize hc85 : F38_crossroadsref28_owns (w0.D.getD b1.To.toNat default) p2 = c85 at hR
          try dsimp only at hR
          refine GX.callp (r := .bool c85) rfl rfl rfl (f38_ok (w0.D.getD b1.To.toNat default) p2 _ hc85) rfl rfl ?_
          refine GX.q (.bool c85) ?_
          refine GX.done ?_
          rcases bool_two (c85) with hb10 | hb10
          ·rw [hb10]; try simp only [hb10, cond_true, cond_false, Bool.true_and, Bool.false_and, Bool.true_or, Bool.false_or, Bool.not_true, Bool.not_false] at hR
           refine WK.condF rfl ?_
           refine WK.skip ?_
           refine WK.sr mixed ?_
           refine GX.q (.ptr 1 2) ?_
           refine GX.pure (v' := .bool false) rfl rfl rfl rfl (congrArg PVal.bool hb9) ?_
           refine GX.q (.ptr 4 3) ?_
           refine GX.step0 (heap' := [(0, .box (TWorld.c w0)), (1, .box (TBorder.c b1)), (2, .box (TPrefix.c p2)), (3, .box [.nils]), (4, .box [.int .u32 c56a.P.A, .int .i64 c56a.P.N, .int .u32 c56a.Tag, .bool false]), (5, .box [.int .u32 ((w0.D.getD b1.To.toNat default).Tag), .ro 2 (((w0.D.getD b1.To.toNat default).In).map TPrefix.c), .ro 4 (((w0.D.getD b1.To.toNat default).Ext).map TExt.c)])]) (next' := 6) rfl rfl rfl rfl rfl ?_
           refine GX.done ?_
           refine WK.sr mixed ?_
           refine GX.q (.agg (TWorld.c w0)) ?_
           refine GX.q (.ptr 1 1) ?_
           refine GX.q (.int .i64 b1.To) ?_
           refine GX.q (.agg (TPrefix.c p2)) ?_
           generalize hc96 : F22_crossroadsref28_Has w0 b1.To p2 = c96 at hR
           obtain ⟨c96a, c96b⟩ := c96; try dsimp only at hR
           refine GX.callp (r := .tup [.agg [.int .u32 c96a.P.A, .int .i64 c96a.P.N, .int .u32 c96a.Tag, .bool c96a.Marked], .bool c96b]) rfl rfl rfl (f22_ok w0 b1.To p2 _ hc96) rfl rfl ?_
           refine GX.m rfl ?_
           refine GX.q (.agg [.int .u32 c96a.P.A, .int .i64 c96a.P.N, .int .u32 c96a.Tag, .bool c96a.Marked]) ?_
           refine GX.q (.bool c96b) ?_
           refine GX.step (v' := .ptr 6 0) (heap' := [(0, .box (TWorld.c w0)), (1, .box (TBorder.c b1)), (2, .box (TPrefix.c p2)), (3, .box [.nils]), (4, .box [.int .u32 c56a.P.A, .int .i64 c56a.P.N, .int .u32 c56a.Tag, .bool false]), (5, .box [.int .u32 ((w0.D.getD b1.To.toNat default).Tag), .ro 2 (((w0.D.getD b1.To.toNat default).In).map TPrefix.c), .ro 4 (((w0.D.getD b1.To.toNat default).Ext).map TExt.c)]), (6, .box [.int .u32 0, .int .i64 0, .int .u32 0, .bool false])]) (next' := 7) rfl rfl rfl rfl rfl rfl rfl ?_
           refine GX.step0 (heap' := [(0, .box (TWorld.c w0)), (1, .box (TBorder.c b1)), (2, .box (TPrefix.c p2)), (3, .box [.nils]), (4, .box [.int .u32 c56a.P.A, .int .i64 c56a.P.N, .int .u32 c56a.Tag, .bool false]), (5, .box [.int .u32 ((w0.D.getD b1.To.toNat default).Tag), .ro 2 (((w0.D.getD b1.To.toNat default).In).map TPrefix.c), .ro 4 (((w0.D.getD b1.To.toNat default).Ext).map TExt.c)]), (6, .box (TExt.c c96a))]) (next' := 7) rfl rfl rfl rfl rfl ?_
           refine GX.m rfl ?_
           refine GX.done ?_
           refine WK.seq ?_
           refine WK.sr mixed ?_
           refine GX.m rfl ?_
           refine GX.q (.bool (!c96b)) ?_
           refine GX.m rfl ?_
           rcases bool_two (c96b) with hb11 | hb11
           ·rw [hb11]; try simp only [hb11, cond_true, cond_false, Bool.true_and, Bool.false_and, Bool.true_or, Bool.false_or, Bool.not_true, Bool.not_false] at hR
            refine GX.q (.ptr 5 2) ?_
            refine GX.q (.ro 4 (((w0.D.getD b1.To.toNat default).Ext).map TExt.c)) ?_
            refine GX.pure (v' := .int .i64 (((w0.D.getD b1.To.toNat default).Ext).length : Int)) rfl rfl rfl rfl (len_map _ _) ?_
            refine GX.q (.bool (decide (50 ≤ (((w0.D.getD b1.To.toNat default).Ext).length : Int)))) ?_
            refine GX.q (.bool (decide (50 ≤ (((w0.D.getD b1.To.toNat default).Ext).length : Int)))) ?_
            refine GX.done ?_
            rcases bool_two (decide (50 ≤ (((w0.D.getD b1.To.toNat default).Ext).length : Int))) with hb12 | hb12
            ·rw [hb12]; try simp only [hb12, cond_true, cond_false, Bool.true_and, Bool.false_and, Bool.true_or, Bool.false_or, Bool.not_true, Bool.not_false] at hR
             refine WK.condF rfl ?_
             refine WK.skip ?_
             refine WK.sr mixed ?_
             refine GX.q (.ptr 5 2) ?_
             refine GX.q (.ro 4 (((w0.D.getD b1.To.toNat default).Ext).map TExt.c)) ?_
             refine GX.q (.agg [.int .u32 c56a.P.A, .int .i64 c56a.P.N, .int .u32 c56a.Tag, .bool false]) ?_
             generalize hc111 : F46_crossroadsref28_into ((w0.D.getD b1.To.toNat default).Ext) (⟨c56a.P, c56a.Tag, false⟩ : TExt) = c111 at hR
             try dsimp only at hR
             refine GX.callp (r := .ro 4 (c111.map TExt.c)) rfl rfl rfl (f46_ok ((w0.D.getD b1.To.toNat default).Ext) (⟨c56a.P, c56a.Tag, false⟩ : TExt) (by ((try simp only [List.length_append, List.length_cons, List.length_nil, List.length_map, decide_eq_true_eq, decide_eq_false_iff_not] at *) <;> omega)) _ hc111) rfl rfl ?_
             refine GX.q (.ptr 5 2) ?_
             refine GX.step0 (heap' := [(0, .box (TWorld.c w0)), (1, .box (TBorder.c b1)), (2, .box (TPrefix.c p2)), (3, .box [.nils]), (4, .box [.int .u32 c56a.P.A, .int .i64 c56a.P.N, .int .u32 c56a.Tag, .bool false]), (5, .box [.int .u32 ((w0.D.getD b1.To.toNat default).Tag), .ro 2 (((w0.D.getD b1.To.toNat default).In).map TPrefix.c), .ro 4 (c111.map TExt.c)]), (6, .box (TExt.c c96a))]) (next' := 7) rfl rfl rfl rfl rfl ?_
             refine GX.done ?_
             refine WK.seq ?_
             refine WK.drawn mixed ?_
             refine RD.q (.agg (TWorld.c w0)) ?_
             refine RD.q (.ptr 1 1) ?_
             refine RD.q (.int .i64 b1.To) ?_
             refine RD.q (.agg [.int .u32 ((w0.D.getD b1.To.toNat default).Tag), .ro 2 (((w0.D.getD b1.To.toNat default).In).map TPrefix.c), .ro 4 (c111.map TExt.c)]) ?_
             generalize hc117 : F41_crossroadsref28_with w0 b1.To (⟨(w0.D.getD b1.To.toNat default).Tag, (w0.D.getD b1.To.toNat default).In, c111⟩ : TDomain) = c117 at hR
             try dsimp only at hR
             refine RD.callp (r := .agg [.ro 3 (c117.D.map TDomain.c)]) rfl rfl rfl (f41_ok w0 b1.To (⟨(w0.D.getD b1.To.toNat default).Tag, (w0.D.getD b1.To.toNat default).In, c111⟩ : TDomain) (by exact InvW.le1000 (by assumption)) (by ((try simp only [List.length_append, List.length_cons, List.length_nil, List.length_map, decide_eq_true_eq, decide_eq_false_iff_not] at *) <;> omega)) (by ((try simp only [List.length_append, List.length_cons, List.length_nil, List.length_map, decide_eq_true_eq, decide_eq_false_iff_not] at *) <;> omega)) _ hc117) rfl rfl ?_
             refine RD.m rfl ?_
             refine RD.q (.bool true) ?_
             refine RD.m rfl ?_
             refine RD.skip rfl rfl ?_
             refine RD.skip rfl rfl ?_
             refine RD.skip rfl rfl ?_
             refine RD.q (.bool true) ?_
             refine RD.step0 (heap' := [(0, .box (TWorld.c w0)), (1, .box (TBorder.c b1)), (2, .box (TPrefix.c p2)), (3, .box (TWorld.c c117)), (4, .box [.int .u32 c56a.P.A, .int .i64 c56a.P.N, .int .u32 c56a.Tag, .bool false]), (5, .box [.int .u32 ((w0.D.getD b1.To.toNat default).Tag), .ro 2 (((w0.D.getD b1.To.toNat default).In).map TPrefix.c), .ro 4 (c111.map TExt.c)]), (6, .box (TExt.c c96a))]) (next' := 7) rfl rfl rfl rfl rfl ?_
             refine RD.m rfl ?_
             refine RD.m rfl ?_
             refine RD.done rfl ?_
             refine WK.ret ?_
             subst hR
             exact RetQ.fr [] (.inr rfl) rfl rfl rfl rfl
            ·rw [hb12]; try simp only [hb12, cond_true, cond_false, Bool.true_and, Bool.false_and, Bool.true_or, Bool.false_or, Bool.not_true, Bool.not_false] at hR
             refine WK.condT rfl ?_
             refine WK.sr mixed ?_
             refine GX.q (.agg (TWorld.c w0)) ?_
             refine GX.step0 (heap' := [(0, .box (TWorld.c w0)), (1, .box (TBorder.c b1)), (2, .box (TPrefix.c p2)), (3, .box (TWorld.c w0)), (4, .box [.int .u32 c56a.P.A, .int .i64 c56a.P.N, .int .u32 c56a.Tag, .bool false]), (5, .box [.int .u32 ((w0.D.getD b1.To.toNat default).Tag), .ro 2 (((w0.D.getD b1.To.toNat default).In).map TPrefix.c), .ro 4 (((w0.D.getD b1.To.toNat default).Ext).map TExt.c)]), (6, .box (TExt.c c96a))]) (next' := 7) rfl rfl rfl rfl rfl ?_
             refine GX.m rfl ?_
             refine GX.m rfl ?_
             refine GX.done ?_
             refine WK.ret ?_
             subst hR
             exact RetQ.fr [] (.inr rfl) rfl rfl rfl rfl
           ·rw [hb11]; try simp only [hb11, cond_true, cond_false, Bool.true_and, Bool.false_and, Bool.true_or, Bool.false_or, Bool.not_true, Bool.not_false] at hR
            refine GX.skip rfl rfl ?_
            refine GX.skip rfl rfl ?_
            refine GX.skip rfl rfl ?_
            refine GX.skip rfl rfl ?_
            refine GX.q (.bool false) ?_
            refine GX.done ?_
            refine WK.condF rfl ?_
            refine WK.skip ?_
            refine WK.sr mixed ?_
            refine GX.q (.ptr 5 2) ?_
            refine GX.q (.ro 4 (((w0.D.getD b1.To.toNat default).Ext).map TExt.c)) ?_
            refine GX.q (.agg [.int .u32 c56a.P.A, .int .i64 c56a.P.N, .int .u32 c56a.Tag, .bool false]) ?_
            generalize hc111 : F46_crossroadsref28_into ((w0.D.getD b1.To.toNat default).Ext) (⟨c56a.P, c56a.Tag, false⟩ : TExt) = c111 at hR
            try dsimp only at hR
            refine GX.callp (r := .ro 4 (c111.map TExt.c)) rfl rfl rfl (f46_ok ((w0.D.getD b1.To.toNat default).Ext) (⟨c56a.P, c56a.Tag, false⟩ : TExt) (by exact InvD.le1000 (InvW.get (by assumption) _)) _ hc111) rfl rfl ?_
            refine GX.q (.ptr 5 2) ?_
            refine GX.step0 (heap' := [(0, .box (TWorld.c w0)), (1, .box (TBorder.c b1)), (2, .box (TPrefix.c p2)), (3, .box [.nils]), (4, .box [.int .u32 c56a.P.A, .int .i64 c56a.P.N, .int .u32 c56a.Tag, .bool false]), (5, .box [.int .u32 ((w0.D.getD b1.To.toNat default).Tag), .ro 2 (((w0.D.getD b1.To.toNat default).In).map TPrefix.c), .ro 4 (c111.map TExt.c)]), (6, .box (TExt.c c96a))]) (next' := 7) rfl rfl rfl rfl rfl ?_
            refine GX.done ?_
            refine WK.seq ?_
            refine WK.drawn mixed ?_
            refine RD.q (.agg (TWorld.c w0)) ?_
            refine RD.q (.ptr 1 1) ?_
            refine RD.q (.int .i64 b1.To) ?_
            refine RD.q (.agg [.int .u32 ((w0.D.getD b1.To.toNat default).Tag), .ro 2 (((w0.D.getD b1.To.toNat default).In).map TPrefix.c), .ro 4 (c111.map TExt.c)]) ?_
            generalize hc117 : F41_crossroadsref28_with w0 b1.To (⟨(w0.D.getD b1.To.toNat default).Tag, (w0.D.getD b1.To.toNat default).In, c111⟩ : TDomain) = c117 at hR
            try dsimp only at hR
            refine RD.callp (r := .agg [.ro 3 (c117.D.map TDomain.c)]) rfl rfl rfl (f41_ok w0 b1.To (⟨(w0.D.getD b1.To.toNat default).Tag, (w0.D.getD b1.To.toNat default).In, c111⟩ : TDomain) (by exact InvW.le1000 (by assumption)) (by ((try simp only [List.length_append, List.length_cons, List.length_nil, List.length_map, decide_eq_true_eq, decide_eq_false_iff_not] at *) <;> omega)) (by ((try simp only [List.length_append, List.length_cons, List.length_nil, List.length_map, decide_eq_true_eq, decide_eq_false_iff_not] at *) <;> omega)) _ hc117) rfl rfl ?_
            refine RD.m rfl ?_
            refine RD.q (.bool false) ?_
            refine RD.m rfl ?_
            refine RD.q (.agg (TExt.c c96a)) ?_
            refine RD.q (.agg [.int .u32 c56a.P.A, .int .i64 c56a.P.N, .int .u32 c56a.Tag, .bool false]) ?_
            refine RD.q (.bool (!(decide (c96a.P.A = c56a.P.A) && (decide (c96a.P.N = c56a.P.N) && (decide (c96a.Tag = c56a.Tag) && ((c96a.Marked == false) && true)))))) ?_
            refine RD.q (.bool (!(decide (c96a.P.A = c56a.P.A) && (decide (c96a.P.N = c56a.P.N) && (decide (c96a.Tag = c56a.Tag) && ((c96a.Marked == false) && true)))))) ?_
            refine RD.step0 (heap' := [(0, .box (TWorld.c w0)), (1, .box (TBorder.c b1)), (2, .box (TPrefix.c p2)), (3, .box (TWorld.c c117)), (4, .box [.int .u32 c56a.P.A, .int .i64 c56a.P.N, .int .u32 c56a.Tag, .bool false]), (5, .box [.int .u32 ((w0.D.getD b1.To.toNat default).Tag), .ro 2 (((w0.D.getD b1.To.toNat default).In).map TPrefix.c), .ro 4 (c111.map TExt.c)]), (6, .box (TExt.c c96a))]) (next' := 7) rfl rfl rfl rfl rfl ?_
            refine RD.m rfl ?_
            refine RD.m rfl ?_
            refine RD.done rfl ?_
            refine WK.ret ?_
            subst hR
            exact RetQ.fr [] (.inr rfl) rfl rfl rfl rfl
          ·rw [hb10]; try simp only [hb10, cond_true, cond_false, Bool.true_and, Bool.false_and, Bool.true_or, Bool.false_or, Bool.not_true, Bool.not_false] at hR
           refine WK.condT rfl ?_
           refine WK.sr mixed ?_
           refine GX.q (.agg (TWorld.c w0)) ?_
           refine GX.step0 (heap' := [(0, .box (TWorld.c w0)), (1, .box (TBorder.c b1)), (2, .box (TPrefix.c p2)), (3, .box (TWorld.c w0)), (4, .box (TExt.c c56a)), (5, .box [.int .u32 ((w0.D.getD b1.To.toNat default).Tag), .ro 2 (((w0.D.getD b1.To.toNat default).In).map TPrefix.c), .ro 4 (((w0.D.getD b1.To.toNat default).Ext).map TExt.c)])]) (next' := 6) rfl rfl rfl rfl rfl ?_
           refine GX.m rfl ?_
           refine GX.m rfl ?_
           refine GX.done ?_
           refine WK.ret ?_
           subst hR
           exact RetQ.fr [] (.inr rfl) rfl rfl rfl rfl
         ·rw [hb9]; try simp only [hb9, cond_true, cond_false, Bool.true_and, Bool.false_and, Bool.true_or, Bool.false_or, Bool.not_true, Bool.not_false] at hR
          refine GX.q (.ptr 4 3) ?_
          refine GX.q (.bool c56a.Marked) ?_
          refine GX.q (.bool c56a.Marked) ?_
          refine GX.q (.bool c56a.Marked) ?_
          refine GX.m rfl ?_
          rcases bool_two (c56a.Marked) with hb13 | hb13
          ·rw [hb13]; try simp only [hb13, cond_true, cond_false, Bool.true_and, Bool.false_and, Bool.true_or, Bool.false_or, Bool.not_true, Bool.not_false] at hR
           refine GX.q (.agg [.int .u32 ((w0.D.getD b1.To.toNat default).Tag), .ro 2 (((w0.D.getD b1.To.toNat default).In).map TPrefix.c), .ro 4 (((w0.D.getD b1.To.toNat default).Ext).map TExt.c)]) ?_
           refine GX.q (.agg (TPrefix.c p2)) ?_
           generalize hc85 : F38_crossroadsref28_owns (w0.D.getD b1.To.toNat default) p2 = c85 at hR
           try dsimp only at hR
           refine GX.callp (r := .bool c85) rfl rfl rfl (f38_ok (w0.D.getD b1.To.toNat default) p2 _ hc85) rfl rfl ?_
           refine GX.q (.bool c85) ?_
           refine GX.done ?_
           rcases bool_two (c85) with hb14 | hb14
           ·rw [hb14]; try simp only [hb14, cond_true, cond_false, Bool.true_and, Bool.false_and, Bool.true_or, Bool.false_or, Bool.not_true, Bool.not_false] at hR
            refine WK.condF rfl ?_
            refine WK.skip ?_
            refine WK.sr mixed ?_
            refine GX.q (.ptr 1 2) ?_
            refine GX.pure (v' := .bool true) rfl rfl rfl rfl (congrArg PVal.bool hb9) ?_
            refine GX.q (.ptr 4 3) ?_
            refine GX.step0 (heap' := [(0, .box (TWorld.c w0)), (1, .box (TBorder.c b1)), (2, .box (TPrefix.c p2)), (3, .box [.nils]), (4, .box [.int .u32 c56a.P.A, .int .i64 c56a.P.N, .int .u32 c56a.Tag, .bool true]), (5, .box [.int .u32 ((w0.D.getD b1.To.toNat default).Tag), .ro 2 (((w0.D.getD b1.To.toNat default).In).map TPrefix.c), .ro 4 (((w0.D.getD b1.To.toNat default).Ext).map TExt.c)])]) (next' := 6) rfl rfl rfl rfl rfl ?_
            refine GX.done ?_
            refine WK.sr mixed ?_
            refine GX.q (.agg (TWorld.c w0)) ?_
            refine GX.q (.ptr 1 1) ?_
            refine GX.q (.int .i64 b1.To) ?_
            refine GX.q (.agg (TPrefix.c p2)) ?_
            generalize hc96 : F22_crossroadsref28_Has w0 b1.To p2 = c96 at hR
            obtain ⟨c96a, c96b⟩ := c96; try dsimp only at hR
            refine GX.callp (r := .tup [.agg [.int .u32 c96a.P.A, .int .i64 c96a.P.N, .int .u32 c96a.Tag, .bool c96a.Marked], .bool c96b]) rfl rfl rfl (f22_ok w0 b1.To p2 _ hc96) rfl rfl ?_
            refine GX.m rfl ?_
            refine GX.q (.agg [.int .u32 c96a.P.A, .int .i64 c96a.P.N, .int .u32 c96a.Tag, .bool c96a.Marked]) ?_
            refine GX.q (.bool c96b) ?_
            refine GX.step (v' := .ptr 6 0) (heap' := [(0, .box (TWorld.c w0)), (1, .box (TBorder.c b1)), (2, .box (TPrefix.c p2)), (3, .box [.nils]), (4, .box [.int .u32 c56a.P.A, .int .i64 c56a.P.N, .int .u32 c56a.Tag, .bool true]), (5, .box [.int .u32 ((w0.D.getD b1.To.toNat default).Tag), .ro 2 (((w0.D.getD b1.To.toNat default).In).map TPrefix.c), .ro 4 (((w0.D.getD b1.To.toNat default).Ext).map TExt.c)]), (6, .box [.int .u32 0, .int .i64 0, .int .u32 0, .bool false])]) (next' := 7) rfl rfl rfl rfl rfl rfl rfl ?_
            refine GX.step0 (heap' := [(0, .box (TWorld.c w0)), (1, .box (TBorder.c b1)), (2, .box (TPrefix.c p2)), (3, .box [.nils]), (4, .box [.int .u32 c56a.P.A, .int .i64 c56a.P.N, .int .u32 c56a.Tag, .bool true]), (5, .box [.int .u32 ((w0.D.getD b1.To.toNat default).Tag), .ro 2 (((w0.D.getD b1.To.toNat default).In).map TPrefix.c), .ro 4 (((w0.D.getD b1.To.toNat default).Ext).map TExt.c)]), (6, .box (TExt.c c96a))]) (next' := 7) rfl rfl rfl rfl rfl ?_
            refine GX.m rfl ?_
            refine GX.done ?_
            refine WK.seq ?_
            refine WK.sr mixed ?_
            refine GX.m rfl ?_
            refine GX.q (.bool (!c96b)) ?_
            refine GX.m rfl ?_
            rcases bool_two (c96b) with hb15 | hb15
            ·rw [hb15]; try simp only [hb15, cond_true, cond_false, Bool.true_and, Bool.false_and, Bool.true_or, Bool.false_or, Bool.not_true, Bool.not_false] at hR
             refine GX.q (.ptr 5 2) ?_
             refine GX.q (.ro 4 (((w0.D.getD b1.To.toNat default).Ext).map TExt.c)) ?_
             refine GX.pure (v' := .int .i64 (((w0.D.getD b1.To.toNat default).Ext).length : Int)) rfl rfl rfl rfl (len_map _ _) ?_
             refine GX.q (.bool (decide (50 ≤ (((w0.D.getD b1.To.toNat default).Ext).length : Int)))) ?_
             refine GX.q (.bool (decide (50 ≤ (((w0.D.getD b1.To.toNat default).Ext).length : Int)))) ?_
             refine GX.done ?_
             rcases bool_two (decide (50 ≤ (((w0.D.getD b1.To.toNat default).Ext).length : Int))) with hb16 | hb16
             ·rw [hb16]; try simp only [hb16, cond_true, cond_false, Bool.true_and, Bool.false_and, Bool.true_or, Bool.false_or, Bool.not_true, Bool.not_false] at hR
              refine WK.condF rfl ?_
              refine WK.skip ?_
              refine WK.sr mixed ?_
              refine GX.q (.ptr 5 2) ?_
              refine GX.q (.ro 4 (((w0.D.getD b1.To.toNat default).Ext).map TExt.c)) ?_
              refine GX.q (.agg [.int .u32 c56a.P.A, .int .i64 c56a.P.N, .int .u32 c56a.Tag, .bool true]) ?_
              generalize hc111 : F46_crossroadsref28_into ((w0.D.getD b1.To.toNat default).Ext) (⟨c56a.P, c56a.Tag, true⟩ : TExt) = c111 at hR
              try dsimp only at hR
              refine GX.callp (r := .ro 4 (c111.map TExt.c)) rfl rfl rfl (f46_ok ((w0.D.getD b1.To.toNat default).Ext) (⟨c56a.P, c56a.Tag, true⟩ : TExt) (by ((try simp only [List.length_append, List.length_cons, List.length_nil, List.length_map, decide_eq_true_eq, decide_eq_false_iff_not] at *) <;> omega)) _ hc111) rfl rfl ?_
              refine GX.q (.ptr 5 2) ?_
              refine GX.step0 (heap' := [(0, .box (TWorld.c w0)), (1, .box (TBorder.c b1)), (2, .box (TPrefix.c p2)), (3, .box [.nils]), (4, .box [.int .u32 c56a.P.A, .int .i64 c56a.P.N, .int .u32 c56a.Tag, .bool true]), (5, .box [.int .u32 ((w0.D.getD b1.To.toNat default).Tag), .ro 2 (((w0.D.getD b1.To.toNat default).In).map TPrefix.c), .ro 4 (c111.map TExt.c)]), (6, .box (TExt.c c96a))]) (next' := 7) rfl rfl rfl rfl rfl ?_
              refine GX.done ?_
              refine WK.seq ?_
              refine WK.drawn mixed ?_
              refine RD.q (.agg (TWorld.c w0)) ?_
              refine RD.q (.ptr 1 1) ?_
              refine RD.q (.int .i64 b1.To) ?_
              refine RD.q (.agg [.int .u32 ((w0.D.getD b1.To.toNat default).Tag), .ro 2 (((w0.D.getD b1.To.toNat default).In).map TPrefix.c), .ro 4 (c111.map TExt.c)]) ?_
              generalize hc117 : F41_crossroadsref28_with w0 b1.To (⟨(w0.D.getD b1.To.toNat default).Tag, (w0.D.getD b1.To.toNat default).In, c111⟩ : TDomain) = c117 at hR
              try dsimp only at hR
              refine RD.callp (r := .agg [.ro 3 (c117.D.map TDomain.c)]) rfl rfl rfl (f41_ok w0 b1.To (⟨(w0.D.getD b1.To.toNat default).Tag, (w0.D.getD b1.To.toNat default).In, c111⟩ : TDomain) (by exact InvW.le1000 (by assumption)) (by ((try simp only [List.length_append, List.length_cons, List.length_nil, List.length_map, decide_eq_true_eq, decide_eq_false_iff_not] at *) <;> omega)) (by ((try simp only [List.length_append, List.length_cons, List.length_nil, List.length_map, decide_eq_true_eq, decide_eq_false_iff_not] at *) <;> omega)) _ hc117) rfl rfl ?_
              refine RD.m rfl ?_
              refine RD.q (.bool true) ?_
              refine RD.m rfl ?_
              refine RD.skip rfl rfl ?_
              refine RD.skip rfl rfl ?_
              refine RD.skip rfl rfl ?_
              refine RD.q (.bool true) ?_
              refine RD.step0 (heap' := [(0, .box (TWorld.c w0)), (1, .box (TBorder.c b1)), (2, .box (TPrefix.c p2)), (3, .box (TWorld.c c117)), (4, .box [.int .u32 c56a.P.A, .int .i64 c56a.P.N, .int .u32 c56a.Tag, .bool true]), (5, .box [.int .u32 ((w0.D.getD b1.To.toNat default).Tag), .ro 2 (((w0.D.getD b1.To.toNat default).In).map TPrefix.c), .ro 4 (c111.map TExt.c)]), (6, .box (TExt.c c96a))]) (next' := 7) rfl rfl rfl rfl rfl ?_
              refine RD.m rfl ?_
              refine RD.m rfl ?_
              refine RD.done rfl ?_
              refine WK.ret ?_
              subst hR
              exact RetQ.fr [] (.inr rfl) rfl rfl rfl rfl
             ·rw [hb16]; try simp only [hb16, cond_true, cond_false, Bool.true_and, Bool.false_and, Bool.true_or, Bool.false_or, Bool.not_true, Bool.not_false] at hR
              refine WK.condT rfl ?_
              refine WK.sr mixed ?_
              refine GX.q (.agg (TWorld.c w0)) ?_
              refine GX.step0 (heap' := [(0, .box (TWorld.c w0)), (1, .box (TBorder.c b1)), (2, .box (TPrefix.c p2)), (3, .box (TWorld.c w0)), (4, .box [.int .u32 c56a.P.A, .int .i64 c56a.P.N, .int .u32 c56a.Tag, .bool true]), (5, .box [.int .u32 ((w0.D.getD b1.To.toNat default).Tag), .ro 2 (((w0.D.getD b1.To.toNat default).In).map TPrefix.c), .ro 4 (((w0.D.getD b1.To.toNat default).Ext).map TExt.c)]), (6, .box (TExt.c c96a))]) (next' := 7) rfl rfl rfl rfl rfl ?_
              refine GX.m rfl ?_
              refine GX.m rfl ?_
              refine GX.done ?_
              refine WK.ret ?_
              subst hR
              exact RetQ.fr [] (.inr rfl) rfl rfl rfl rfl
            ·rw [hb15]; try simp only [hb15, cond_true, cond_false, Bool.true_and, Bool.false_and, Bool.true_or, Bool.false_or, Bool.not_true, Bool.not_false] at hR
             refine GX.skip rfl rfl ?_
             refine GX.skip rfl rfl ?_
             refine GX.skip rfl rfl ?_
             refine GX.skip rfl rfl ?_
             refine GX.q (.bool false) ?_
             refine GX.done ?_
             refine WK.condF rfl ?_
             refine WK.skip ?_
             refine WK.sr mixed ?_
             refine GX.q (.ptr 5 2) ?_
             refine GX.q (.ro 4 (((w0.D.getD b1.To.toNat default).Ext).map TExt.c)) ?_
             refine GX.q (.agg [.int .u32 c56a.P.A, .int .i64 c56a.P.N, .int .u32 c56a.Tag, .bool true]) ?_
             generalize hc111 : F46_crossroadsref28_into ((w0.D.getD b1.To.toNat default).Ext) (⟨c56a.P, c56a.Tag, true⟩ : TExt) = c111 at hR
             try dsimp only at hR
             refine GX.callp (r := .ro 4 (c111.map TExt.c)) rfl rfl rfl (f46_ok ((w0.D.getD b1.To.toNat default).Ext) (⟨c56a.P, c56a.Tag, true⟩ : TExt) (by exact InvD.le1000 (InvW.get (by assumption) _)) _ hc111) rfl rfl ?_
             refine GX.q (.ptr 5 2) ?_
             refine GX.step0 (heap' := [(0, .box (TWorld.c w0)), (1, .box (TBorder.c b1)), (2, .box (TPrefix.c p2)), (3, .box [.nils]), (4, .box [.int .u32 c56a.P.A, .int .i64 c56a.P.N, .int .u32 c56a.Tag, .bool true]), (5, .box [.int .u32 ((w0.D.getD b1.To.toNat default).Tag), .ro 2 (((w0.D.getD b1.To.toNat default).In).map TPrefix.c), .ro 4 (c111.map TExt.c)]), (6, .box (TExt.c c96a))]) (next' := 7) rfl rfl rfl rfl rfl ?_
             refine GX.done ?_
             refine WK.seq ?_
             refine WK.drawn mixed ?_
             refine RD.q (.agg (TWorld.c w0)) ?_
             refine RD.q (.ptr 1 1) ?_
             refine RD.q (.int .i64 b1.To) ?_
             refine RD.q (.agg [.int .u32 ((w0.D.getD b1.To.toNat default).Tag), .ro 2 (((w0.D.getD b1.To.toNat default).In).map TPrefix.c), .ro 4 (c111.map TExt.c)]) ?_
             generalize hc117 : F41_crossroadsref28_with w0 b1.To (⟨(w0.D.getD b1.To.toNat default).Tag, (w0.D.getD b1.To.toNat default).In, c111⟩ : TDomain) = c117 at hR
             try dsimp only at hR
             refine RD.callp (r := .agg [.ro 3 (c117.D.map TDomain.c)]) rfl rfl rfl (f41_ok w0 b1.To (⟨(w0.D.getD b1.To.toNat default).Tag, (w0.D.getD b1.To.toNat default).In, c111⟩ : TDomain) (by exact InvW.le1000 (by assumption)) (by ((try simp only [List.length_append, List.length_cons, List.length_nil, List.length_map, decide_eq_true_eq, decide_eq_false_iff_not] at *) <;> omega)) (by ((try simp only [List.length_append, List.length_cons, List.length_nil, List.length_map, decide_eq_true_eq, decide_eq_false_iff_not] at *) <;> omega)) _ hc117) rfl rfl ?_
             refine RD.m rfl ?_
             refine RD.q (.bool false) ?_
             refine RD.m rfl ?_
             refine RD.q (.agg (TExt.c c96a)) ?_
             refine RD.q (.agg [.int .u32 c56a.P.A, .int .i64 c56a.P.N, .int .u32 c56a.Tag, .bool true]) ?_
             refine RD.q (.bool (!(decide (c96a.P.A = c56a.P.A) && (decide (c96a.P.N = c56a.P.N) && (decide (c96a.Tag = c56a.Tag) && ((c96a.Marked == true) && true)))))) ?_
             refine RD.q (.bool (!(decide (c96a.P.A = c56a.P.A) && (decide (c96a.P.N = c56a.P.N) && (decide (c96a.Tag = c56a.Tag) && ((c96a.Marked == true) && true)))))) ?_
             refine RD.step0 (heap' := [(0, .box (TWorld.c w0)), (1, .box (TBorder.c b1)), (2, .box (TPrefix.c p2)), (3, .box (TWorld.c c117)), (4, .box [.int .u32 c56a.P.A, .int .i64 c56a.P.N, .int .u32 c56a.Tag, .bool true]), (5, .box [.int .u32 ((w0.D.getD b1.To.toNat default).Tag), .ro 2 (((w0.D.getD b1.To.toNat default).In).map TPrefix.c), .ro 4 (c111.map TExt.c)]), (6, .box (TExt.c c96a))]) (next' := 7) rfl rfl rfl rfl rfl ?_
             refine RD.m rfl ?_
             refine RD.m rfl ?_
             refine RD.done rfl ?_
             refine WK.ret ?_
             subst hR
             exact RetQ.fr [] (.inr rfl) rfl rfl rfl rfl
           ·rw [hb14]; try simp only [hb14, cond_true, cond_false, Bool.true_and, Bool.false_and, Bool.true_or, Bool.false_or, Bool.not_true, Bool.not_false] at hR
            refine WK.condT rfl ?_
            refine WK.sr mixed ?_
            refine GX.q (.agg (TWorld.c w0)) ?_
            refine GX.step0 (heap' := [(0, .box (TWorld.c w0)), (1, .box (TBorder.c b1)), (2, .box (TPrefix.c p2)), (3, .box (TWorld.c w0)), (4, .box (TExt.c c56a)), (5, .box [.int .u32 ((w0.D.getD b1.To.toNat default).Tag), .ro 2 (((w0.D.getD b1.To.toNat default).In).map TPrefix.c), .ro 4 (((w0.D.getD b1.To.toNat default).Ext).map TExt.c)])]) (next' := 6) rfl rfl rfl rfl rfl ?_
            refine GX.m rfl ?_
            refine GX.m rfl ?_
            refine GX.done ?_
            refine WK.ret ?_
            subst hR
            exact RetQ.fr [] (.inr rfl) rfl rfl rfl rfl
          ·rw [hb13]; try simp only [hb13, cond_true, cond_false, Bool.true_and, Bool.false_and, Bool.true_or, Bool.false_or, Bool.not_true, Bool.not_false] at hR
           refine GX.skip rfl rfl ?_
           refine GX.skip rfl rfl ?_
           refine GX.skip rfl rfl ?_
           refine GX.q (.bool true) ?_
           refine GX.done ?_
           refine WK.condT rfl ?_
           refine WK.sr mixed ?_
           refine GX.q (.agg (TWorld.c w0)) ?_
           refine GX.step0 (heap' := [(0, .box (TWorld.c w0)), (1, .box (TBorder.c b1)), (2, .box (TPrefix.c p2)), (3, .box (TWorld.c w0)), (4, .box (TExt.c c56a)), (5, .box [.int .u32 ((w0.D.getD b1.To.toNat default).Tag), .ro 2 (((w0.D.getD b1.To.toNat default).In).map TPrefix.c), .ro 4 (((w0.D.getD b1.To.toNat default).Ext).map TExt.c)])]) (next' := 6) rfl rfl rfl rfl rfl ?_
           refine GX.m rfl ?_
           refine GX.m rfl ?_
           refine GX.done ?_
           refine WK.ret ?_
           subst hR
           exact RetQ.fr [] (.inr rfl) rfl rfl rfl rfl
        ·rw [hb8]; try simp only [hb8, cond_true, cond_false, Bool.true_and, Bool.false_and, Bool.true_or, Bool.false_or, Bool.not_true, Bool.not_false] at hR
         refine GX.skip rfl rfl ?_
         refine GX.skip rfl rfl ?_
         refine GX.skip rfl rfl ?_
         refine GX.skip rfl rfl ?_
         refine GX.skip rfl rfl ?_
         refine GX.skip rfl rfl ?_
         refine GX.q (.bool true) ?_
         refine GX.m rfl ?_
         refine GX.skip rfl rfl ?_
         refine GX.skip rfl rfl ?_
         refine GX.skip rfl rfl ?_
         refine GX.q (.bool true) ?_
         refine GX.done ?_
         refine WK.condT rfl ?_
         refine WK.sr mixed ?_
         refine GX.q (.agg (TWorld.c w0)) ?_
         refine GX.step0 (heap' := [(0, .box (TWorld.c w0)), (1, .box (TBorder.c b1)), (2, .box (TPrefix.c p2)), (3, .box (TWorld.c w0)), (4, .box (TExt.c c56a)), (5, .box [.int .u32 ((w0.D.getD b1.To.toNat default).Tag), .ro 2 (((w0.D.getD b1.To.toNat default).In).map TPrefix.c), .ro 4 (((w0.D.getD b1.To.toNat default).Ext).map TExt.c)])]) (next' := 6) rfl rfl rfl rfl rfl ?_
         refine GX.m rfl ?_
         refine GX.m rfl ?_
         refine GX.done ?_
         refine WK.ret ?_
         subst hR
         exact RetQ.fr [] (.inr rfl) rfl rfl rfl rfl
     ·rw [hb5]; try simp only [hb5, cond_true, cond_false, Bool.true_and, Bool.false_and, Bool.true_or, Bool.false_or, Bool.not_true, Bool.not_false] at hR
      refine GX.skip rfl rfl ?_
      refine GX.skip rfl rfl ?_
      refine GX.skip rfl rfl ?_
      refine GX.q (.bool true) ?_
      refine GX.done ?_
      refine WK.condT rfl ?_
      refine WK.sr mixed ?_
      refine GX.q (.agg (TWorld.c w0)) ?_
      refine GX.step0 (heap' := [(0, .box (TWorld.c w0)), (1, .box (TBorder.c b1)), (2, .box (TPrefix.c p2)), (3, .box (TWorld.c w0))]) (next' := 4) rfl rfl rfl rfl rfl ?_
      refine GX.m rfl ?_
      refine GX.m rfl ?_
      refine GX.done ?_
      refine WK.ret ?_
      subst hR
      exact RetQ.fr [] (.inr rfl) rfl rfl rfl rfl
    ·rw [hb4]; try simp only [hb4, cond_true, cond_false, Bool.true_and, Bool.false_and, Bool.true_or, Bool.false_or, Bool.not_true, Bool.not_false] at hR
     refine GX.skip rfl rfl ?_
     refine GX.skip rfl rfl ?_
     refine GX.skip rfl rfl ?_
     refine GX.skip rfl rfl ?_
     refine GX.skip rfl rfl ?_
     refine GX.q (.bool true) ?_
     refine GX.m rfl ?_
     refine GX.skip rfl rfl ?_
     refine GX.skip rfl rfl ?_
     refine GX.skip rfl rfl ?_
     refine GX.q (.bool true) ?_
     refine GX.done ?_
     refine WK.condT rfl ?_
     refine WK.sr mixed ?_
     refine GX.q (.agg (TWorld.c w0)) ?_
     refine GX.step0 (heap' := [(0, .box (TWorld.c w0)), (1, .box (TBorder.c b1)), (2, .box (TPrefix.c p2)), (3, .box (TWorld.c w0))]) (next' := 4) rfl rfl rfl rfl rfl ?_
     refine GX.m rfl ?_
     refine GX.m rfl ?_
     refine GX.done ?_
     refine WK.ret ?_
     subst hR
     exact RetQ.fr [] (.inr rfl) rfl rfl rfl rfl
   ·rw [hb3]; try simp only [hb3, cond_true, cond_false, Bool.true_and, Bool.false_and, Bool.true_or, Bool.false_or, Bool.not_true, Bool.not_false] at hR
    refine GX.skip rfl rfl ?_
    refine GX.skip rfl rfl ?_
    refine GX.skip rfl rfl ?_
    refine GX.skip rfl rfl ?_
    refine GX.skip rfl rfl ?_
    refine GX.skip rfl rfl ?_
    refine GX.q (.bool true) ?_
    refine GX.m rfl ?_
    refine GX.skip rfl rfl ?_
    refine GX.skip rfl rfl ?_
    refine GX.skip rfl rfl ?_
    refine GX.skip rfl rfl ?_
    refine GX.skip rfl rfl ?_
    refine GX.q (.bool true) ?_
    refine GX.m rfl ?_
    refine GX.skip rfl rfl ?_
    refine GX.skip rfl rfl ?_
    refine GX.skip rfl rfl ?_
    refine GX.q (.bool true) ?_
    refine GX.done ?_
    refine WK.condT rfl ?_
    refine WK.sr mixed ?_
    refine GX.q (.agg (TWorld.c w0)) ?_
    refine GX.step0 (heap' := [(0, .box (TWorld.c w0)), (1, .box (TBorder.c b1)), (2, .box (TPrefix.c p2)), (3, .box (TWorld.c w0))]) (next' := 4) rfl rfl rfl rfl rfl ?_
    refine GX.m rfl ?_
    refine GX.m rfl ?_
    refine GX.done ?_
    refine WK.ret ?_
    subst hR
    exact RetQ.fr [] (.inr rfl) rfl rfl rfl rfl
  ·rw [hb2]; try simp only [hb2, cond_true, cond_false, Bool.true_and, Bool.false_and, Bool.true_or, Bool.false_or, Bool.not_true, Bool.not_false] at hR
   refine GX.skip rfl rfl ?_
   refine GX.skip rfl rfl ?_
   refine GX.skip rfl rfl ?_
   refine GX.q (.bool true) ?_
   refine GX.m rfl ?_
   refine GX.skip rfl rfl ?_
   refine GX.skip rfl rfl ?_
   refine GX.skip rfl rfl ?_
   refine GX.skip rfl rfl ?_
   refine GX.skip rfl rfl ?_
   refine GX.skip rfl rfl ?_
   refine GX.q (.bool true) ?_
   refine GX.m rfl ?_
   refine GX.skip rfl rfl ?_
   refine GX.skip rfl rfl ?_
   refine GX.skip rfl rfl ?_
   refine GX.skip rfl rfl ?_
   refine GX.skip rfl rfl ?_
   refine GX.q (.bool true) ?_
   refine GX.m rfl ?_
   refine GX.skip rfl rfl ?_
   refine GX.skip rfl rfl ?_
   refine GX.skip rfl rfl ?_
   refine GX.q (.bool true) ?_
   refine GX.done ?_
   refine WK.condT rfl ?_
   refine WK.sr mixed ?_
   refine GX.q (.agg (TWorld.c w0)) ?_
   refine GX.step0 (heap' := [(0, .box (TWorld.c w0)), (1, .box (TBorder.c b1)), (2, .box (TPrefix.c p2)), (3, .box (TWorld.c w0))]) (next' := 4) rfl rfl rfl rfl rfl ?_
   refine GX.m rfl ?_
   refine GX.m rfl ?_
   refine GX.done ?_
   refine WK.ret ?_
   subst hR
   exact RetQ.fr [] (.inr rfl) rfl rfl rfl rfl
 ·rw [hb1]; try simp only [hb1, cond_true, cond_false, Bool.true_and, Bool.false_and, Bool.true_or, Bool.false_or, Bool.not_true, Bool.not_false] at hR
  refine GX.skip rfl rfl ?_
  refine GX.skip rfl rfl ?_
  refine GX.skip rfl rfl ?_
  refine GX.skip rfl rfl ?_
  refine GX.skip rfl rfl ?_
  refine GX.skip rfl rfl ?_
  refine GX.q (.bool true) ?_
  refine GX.m rfl ?_
  refine GX.skip rfl rfl ?_
  refine GX.skip rfl rfl ?_
  refine GX.skip rfl rfl ?_
  refine GX.q (.bool true) ?_
  refine GX.m rfl ?_
  refine GX.skip rfl rfl ?_
  refine GX.skip rfl rfl ?_
  refine GX.skip rfl rfl ?_
  refine GX.skip rfl rfl ?_
  refine GX.skip rfl rfl ?_
  refine GX.skip rfl rfl ?_
  refine GX.q (.bool true) ?_
  refine GX.m rfl ?_
  refine GX.skip rfl rfl ?_
  refine GX.skip rfl rfl ?_
  refine GX.skip rfl rfl ?_
  refine GX.skip rfl rfl ?_
  refine GX.skip rfl rfl ?_
  refine GX.q (.bool true) ?_
  refine GX.m rfl ?_
  refine GX.skip rfl rfl ?_
  refine GX.skip rfl rfl ?_
  refine GX.skip rfl rfl ?_
  refine GX.q (.bool true) ?_
  refine GX.done ?_
  refine WK.condT rfl ?_
  refine WK.sr mixed ?_
  refine GX.q (.agg (TWorld.c w0)) ?_
  refine GX.step0 (heap' := [(0, .box (TWorld.c w0)), (1, .box (TBorder.c b1)), (2, .box (TPrefix.c p2)), (3, .box (TWorld.c w0))]) (next' := 4) rfl rfl rfl rfl rfl ?_
  refine GX.m rfl ?_
  refine GX.m rfl ?_
  refine GX.done ?_
  refine WK.ret ?_
  subst hR
  exact RetQ.fr [] (.inr rfl) rfl rfl rfl rfl

theorem f19_ok (w0 : TWorld) (d1 : Int) (p2 : TPrefix) (hp0 : InvW w0) (R : TWorld × Bool) (hR : F19_redist_Cease w0 d1 p2 = R) : FnOk Try.prog 19 [.agg (TWorld.c w0), .int .i64 d1, .agg (TPrefix.c p2)] [] 0 (.tup [.agg (TWorld.c R.1), .bool R.2]) [] 0 := by
 refine FnOk.wk i19 rfl rfl ?_
 unfold F19_redist_Cease at hR
 change WK _ _ _ [ac19] _ ⟨[(0, .agg (TWorld.c w0)), (1, .int .i64 d1), (2, .agg (TPrefix.c p2))], [], 0⟩
 unfold ac19
 refine WK.sr mixed ?_
 refine GX.step (v' := .ptr 0 0) (heap' := [(0, .box (TWorld.c w0))]) (next' := 1) rfl rfl rfl rfl rfl rfl rfl ?_
 refine GX.step (v' := .ptr 1 0) (heap' := [(0, .box (TWorld.c w0)), (1, .box (TPrefix.c p2))]) (next' := 2) rfl rfl rfl rfl rfl rfl rfl ?_
 refine GX.step (v' := .ptr 2 0) (heap' := [(0, .box (TWorld.c w0)), (1, .box (TPrefix.c p2)), (2, .box [.nils])]) (next' := 3) rfl rfl rfl rfl rfl rfl rfl ?_
 refine GX.m rfl ?_
 refine GX.done ?_
 refine WK.seq ?_
 refine WK.sr mixed ?_
 refine GX.q (.agg (TWorld.c w0)) ?_
 refine GX.m rfl ?_
 generalize hc12 : F30_redist_World_is w0 d1 = c12 at hR
 have hpo0_c12 := post_is w0 d1; rw [hc12] at hpo0_c12
 try dsimp only at hR
 refine GX.callp (r := .bool c12) rfl rfl rfl (f30_ok w0 d1 _ hc12) rfl rfl ?_
 refine GX.q (.bool (!c12)) ?_
 refine GX.done ?_
 rcases bool_two (c12) with hb1 | hb1
 ·rw [hb1]; try simp only [hb1, cond_true, cond_false, Bool.true_and, Bool.false_and, Bool.true_or, Bool.false_or, Bool.not_true, Bool.not_false] at hR
  refine WK.condT rfl ?_
  refine WK.sr mixed ?_
  refine GX.q (.agg (TWorld.c w0)) ?_
  refine GX.step0 (heap' := [(0, .box (TWorld.c w0)), (1, .box (TPrefix.c p2)), (2, .box (TWorld.c w0))]) (next' := 3) rfl rfl rfl rfl rfl ?_
  refine GX.m rfl ?_
  refine GX.done ?_
  refine WK.ret ?_
  subst hR
  exact RetQ.fr [] (.inr rfl) rfl rfl rfl rfl
 ·rw [hb1]; try simp only [hb1, cond_true, cond_false, Bool.true_and, Bool.false_and, Bool.true_or, Bool.false_or, Bool.not_true, Bool.not_false] at hR
  try have hq_hpo0_c12 := hpo0_c12 hb1
  refine WK.condF rfl ?_
  refine WK.skip ?_
  refine WK.seq ?_
  refine WK.drawn mixed ?_
  refine RD.q (.ptr 0 0) ?_
  refine RD.q (.ro 3 (w0.D.map TDomain.c)) ?_
  refine RD.m rfl ?_
  refine RD.idxT (c := TDomain.c) (x := (w0.D.getD d1.toNat default)) rfl rfl rfl (by omega) (getD_at (by omega)) ?_
  refine RD.q (.agg [.int .u32 ((w0.D.getD d1.toNat default).Tag), .ro 2 (((w0.D.getD d1.toNat default).In).map TPrefix.c), .ro 4 (((w0.D.getD d1.toNat default).Ext).map TExt.c)]) ?_
  refine RD.q (.agg (TPrefix.c p2)) ?_
  generalize hc22 : F32_redist_Domain_without (w0.D.getD d1.toNat default) p2 = c22 at hR
  have hpo0_c22 := post_wo (w0.D.getD d1.toNat default) p2 (by exact InvW.get (by assumption) _); rw [hc22] at hpo0_c22
  have hpo1_c22 := post_woI (w0.D.getD d1.toNat default) p2 (by exact InvW.get (by assumption) _); rw [hc22] at hpo1_c22
  obtain ⟨c22a, c22b⟩ := c22; try dsimp only at hR; try dsimp only at hpo0_c22; try dsimp only at hpo1_c22
  refine RD.callp (r := .tup [.agg [.int .u32 c22a.Tag, .ro 2 (c22a.In.map TPrefix.c), .ro 4 (c22a.Ext.map TExt.c)], .bool c22b]) rfl rfl rfl (f32_ok (w0.D.getD d1.toNat default) p2 (by exact InvW.get (by assumption) _) _ hc22) rfl rfl ?_
  refine RD.m rfl ?_
  refine RD.q (.agg [.int .u32 c22a.Tag, .ro 2 (c22a.In.map TPrefix.c), .ro 4 (c22a.Ext.map TExt.c)]) ?_
  refine RD.q (.bool c22b) ?_
  refine RD.step (v' := .ptr 3 0) (heap' := [(0, .box (TWorld.c w0)), (1, .box (TPrefix.c p2)), (2, .box [.nils]), (3, .box [.int .u32 0, .nils, .nils])]) (next' := 4) rfl rfl rfl rfl rfl rfl rfl ?_
  refine RD.step0 (heap' := [(0, .box (TWorld.c w0)), (1, .box (TPrefix.c p2)), (2, .box [.nils]), (3, .box (TDomain.c c22a))]) (next' := 4) rfl rfl rfl rfl rfl ?_
  refine RD.m rfl ?_
  refine RD.done rfl ?_
  refine WK.sr mixed ?_
  refine GX.q (.agg (TWorld.c w0)) ?_
  refine GX.m rfl ?_
  refine GX.q (.agg (TDomain.c c22a)) ?_
  generalize hc28 : F36_redist_World_with w0 d1 c22a = c28 at hR
  try dsimp only at hR
  refine GX.callp (r := .agg [.ro 3 (c28.D.map TDomain.c)]) rfl rfl rfl (f36_ok w0 d1 c22a (by exact InvW.le1000 (by assumption)) (by omega) (by omega) _ hc28) rfl rfl ?_
  refine GX.m rfl ?_
  refine GX.step0 (heap' := [(0, .box (TWorld.c w0)), (1, .box (TPrefix.c p2)), (2, .box (TWorld.c c28)), (3, .box (TDomain.c c22a))]) (next' := 4) rfl rfl rfl rfl rfl ?_
  refine GX.m rfl ?_
  refine GX.done ?_
  refine WK.ret ?_
  subst hR
  exact RetQ.fr [] (.inr rfl) rfl rfl rfl rfl

theorem f20_ok (w0 : TWorld) (d1 : Int) (p2 : TPrefix) (hp0 : InvW w0) (R : TWorld × Bool) (hR : F20_crossroadsref28_Cease w0 d1 p2 = R) : FnOk Try.prog 20 [.agg (TWorld.c w0), .int .i64 d1, .agg (TPrefix.c p2)] [] 0 (.tup [.agg (TWorld.c R.1), .bool R.2]) [] 0 := by
 refine FnOk.wk i20 rfl rfl ?_
 unfold F20_crossroadsref28_Cease at hR
 change WK _ _ _ [ac20] _ ⟨[(0, .agg (TWorld.c w0)), (1, .int .i64 d1), (2, .agg (TPrefix.c p2))], [], 0⟩
 unfold ac20
 refine WK.sr mixed ?_
 refine GX.step (v' := .ptr 0 0) (heap' := [(0, .box (TWorld.c w0))]) (next' := 1) rfl rfl rfl rfl rfl rfl rfl ?_
 refine GX.step (v' := .ptr 1 0) (heap' := [(0, .box (TWorld.c w0)), (1, .box (TPrefix.c p2))]) (next' := 2) rfl rfl rfl rfl rfl rfl rfl ?_
 refine GX.step (v' := .ptr 2 0) (heap' := [(0, .box (TWorld.c w0)), (1, .box (TPrefix.c p2)), (2, .box [.nils])]) (next' := 3) rfl rfl rfl rfl rfl rfl rfl ?_
 refine GX.m rfl ?_
 refine GX.done ?_
 refine WK.seq ?_
 refine WK.sr mixed ?_
 refine GX.m rfl ?_
 refine GX.q (.bool (decide (d1 < 0))) ?_
 refine GX.m rfl ?_
 rcases bool_two (decide (d1 < 0)) with hb1 | hb1
 ·rw [hb1]; try simp only [hb1, cond_true, cond_false, Bool.true_and, Bool.false_and, Bool.true_or, Bool.false_or, Bool.not_true, Bool.not_false] at hR
  refine GX.m rfl ?_
  refine GX.q (.ptr 0 0) ?_
  refine GX.q (.ro 3 (w0.D.map TDomain.c)) ?_
  refine GX.pure (v' := .int .i64 (w0.D.length : Int)) rfl rfl rfl rfl (len_map _ _) ?_
  refine GX.q (.bool (decide ((w0.D.length : Int) ≤ d1))) ?_
  refine GX.q (.bool (decide ((w0.D.length : Int) ≤ d1))) ?_
  refine GX.done ?_
  rcases bool_two (decide ((w0.D.length : Int) ≤ d1)) with hb2 | hb2
  ·rw [hb2]; try simp only [hb2, cond_true, cond_false, Bool.true_and, Bool.false_and, Bool.true_or, Bool.false_or, Bool.not_true, Bool.not_false] at hR
   refine WK.condF rfl ?_
   refine WK.skip ?_
   refine WK.sr mixed ?_
   refine GX.q (.ptr 0 0) ?_
   refine GX.q (.ro 3 (w0.D.map TDomain.c)) ?_
   refine GX.m rfl ?_
   refine GX.idxT (c := TDomain.c) (x := (w0.D.getD d1.toNat default)) rfl rfl rfl (by ((try simp only [decide_eq_true_eq, decide_eq_false_iff_not, Bool.not_eq_true, Bool.not_eq_false] at *); first | omega | (rw [wrap64_of (by omega) (by omega)]; omega) | (unfold min_ max_; (repeat' split) <;> first | omega | (rw [wrap64_of (by omega) (by omega)]; omega)))) (getD_at (by ((try simp only [decide_eq_true_eq, decide_eq_false_iff_not, Bool.not_eq_true, Bool.not_eq_false] at *); first | omega | (rw [wrap64_of (by omega) (by omega)]; omega) | (unfold min_ max_; (repeat' split) <;> first | omega | (rw [wrap64_of (by omega) (by omega)]; omega))))) ?_
   refine GX.q (.agg [.int .u32 ((w0.D.getD d1.toNat default).Tag), .ro 2 (((w0.D.getD d1.toNat default).In).map TPrefix.c), .ro 4 (((w0.D.getD d1.toNat default).Ext).map TExt.c)]) ?_
   refine GX.step (v' := .ptr 3 0) (heap' := [(0, .box (TWorld.c w0)), (1, .box (TPrefix.c p2)), (2, .box [.nils]), (3, .box [.int .u32 0, .nils, .nils])]) (next' := 4) rfl rfl rfl rfl rfl rfl rfl ?_
   refine GX.step0 (heap' := [(0, .box (TWorld.c w0)), (1, .box (TPrefix.c p2)), (2, .box [.nils]), (3, .box [.int .u32 ((w0.D.getD d1.toNat default).Tag), .ro 2 (((w0.D.getD d1.toNat default).In).map TPrefix.c), .ro 4 (((w0.D.getD d1.toNat default).Ext).map TExt.c)])]) (next' := 4) rfl rfl rfl rfl rfl ?_
   refine GX.done ?_
   refine WK.sr mixed ?_
   refine GX.q (.ptr 3 2) ?_
   refine GX.q (.ro 4 (((w0.D.getD d1.toNat default).Ext).map TExt.c)) ?_
   refine GX.pure (v' := .int .i64 (((w0.D.getD d1.toNat default).Ext).length : Int)) rfl rfl rfl rfl (len_map _ _) ?_
   refine GX.m rfl ?_
   refine GX.done ?_
   refine WK.sr mixed ?_
   refine GX.q (.ptr 3 2) ?_
   refine GX.q (.ro 4 (((w0.D.getD d1.toNat default).Ext).map TExt.c)) ?_
   refine GX.q (.agg (TPrefix.c p2)) ?_
   generalize hc31 : F40_crossroadsref28_without ((w0.D.getD d1.toNat default).Ext) p2 = c31 at hR
   have hpo0_c31 := post_without ((w0.D.getD d1.toNat default).Ext) p2; rw [hc31] at hpo0_c31
   try dsimp only at hR
   refine GX.callp (r := .ro 4 (c31.map TExt.c)) rfl rfl rfl (f40_ok ((w0.D.getD d1.toNat default).Ext) p2 (by exact InvD.le1000 (InvW.get (by assumption) _)) _ hc31) rfl rfl ?_
   refine GX.q (.ptr 3 2) ?_
   refine GX.step0 (heap' := [(0, .box (TWorld.c w0)), (1, .box (TPrefix.c p2)), (2, .box [.nils]), (3, .box [.int .u32 ((w0.D.getD d1.toNat default).Tag), .ro 2 (((w0.D.getD d1.toNat default).In).map TPrefix.c), .ro 4 (c31.map TExt.c)])]) (next' := 4) rfl rfl rfl rfl rfl ?_
   refine GX.done ?_
   refine WK.seq ?_
   refine WK.drawn mixed ?_
   refine RD.q (.agg (TWorld.c w0)) ?_
   refine RD.m rfl ?_
   refine RD.q (.agg [.int .u32 ((w0.D.getD d1.toNat default).Tag), .ro 2 (((w0.D.getD d1.toNat default).In).map TPrefix.c), .ro 4 (c31.map TExt.c)]) ?_
   generalize hc36 : F41_crossroadsref28_with w0 d1 (⟨(w0.D.getD d1.toNat default).Tag, (w0.D.getD d1.toNat default).In, c31⟩ : TDomain) = c36 at hR
   try dsimp only at hR
   refine RD.callp (r := .agg [.ro 3 (c36.D.map TDomain.c)]) rfl rfl rfl (f41_ok w0 d1 (⟨(w0.D.getD d1.toNat default).Tag, (w0.D.getD d1.toNat default).In, c31⟩ : TDomain) (by exact InvW.le1000 (by assumption)) (by ((try simp only [List.length_append, List.length_cons, List.length_nil, List.length_map, decide_eq_true_eq, decide_eq_false_iff_not] at *) <;> omega)) (by ((try simp only [List.length_append, List.length_cons, List.length_nil, List.length_map, decide_eq_true_eq, decide_eq_false_iff_not] at *) <;> omega)) _ hc36) rfl rfl ?_
   refine RD.q (.ptr 3 2) ?_
   refine RD.q (.ro 4 (c31.map TExt.c)) ?_
   refine RD.pure (v' := .int .i64 (c31.length : Int)) rfl rfl rfl rfl (len_map _ _) ?_
   refine RD.m rfl ?_
   refine RD.q (.bool (decide ((c31.length : Int) < (((w0.D.getD d1.toNat default).Ext).length : Int)))) ?_
   refine RD.step0 (heap' := [(0, .box (TWorld.c w0)), (1, .box (TPrefix.c p2)), (2, .box (TWorld.c c36)), (3, .box [.int .u32 ((w0.D.getD d1.toNat default).Tag), .ro 2 (((w0.D.getD d1.toNat default).In).map TPrefix.c), .ro 4 (c31.map TExt.c)])]) (next' := 4) rfl rfl rfl rfl rfl ?_
   refine RD.m rfl ?_
   refine RD.done rfl ?_
   refine WK.ret ?_
   subst hR
   exact RetQ.fr [] (.inr rfl) rfl rfl rfl rfl
  ·rw [hb2]; try simp only [hb2, cond_true, cond_false, Bool.true_and, Bool.false_and, Bool.true_or, Bool.false_or, Bool.not_true, Bool.not_false] at hR
   refine WK.condT rfl ?_
   refine WK.sr mixed ?_
   refine GX.q (.agg (TWorld.c w0)) ?_
   refine GX.step0 (heap' := [(0, .box (TWorld.c w0)), (1, .box (TPrefix.c p2)), (2, .box (TWorld.c w0))]) (next' := 3) rfl rfl rfl rfl rfl ?_
   refine GX.m rfl ?_
   refine GX.done ?_
   refine WK.ret ?_
   subst hR
   exact RetQ.fr [] (.inr rfl) rfl rfl rfl rfl
 ·rw [hb1]; try simp only [hb1, cond_true, cond_false, Bool.true_and, Bool.false_and, Bool.true_or, Bool.false_or, Bool.not_true, Bool.not_false] at hR
  refine GX.skip rfl rfl ?_
  refine GX.skip rfl rfl ?_
  refine GX.skip rfl rfl ?_
  refine GX.skip rfl rfl ?_
  refine GX.skip rfl rfl ?_
  refine GX.q (.bool true) ?_
  refine GX.done ?_
  refine WK.condT rfl ?_
  refine WK.sr mixed ?_
  refine GX.q (.agg (TWorld.c w0)) ?_
  refine GX.step0 (heap' := [(0, .box (TWorld.c w0)), (1, .box (TPrefix.c p2)), (2, .box (TWorld.c w0))]) (next' := 3) rfl rfl rfl rfl rfl ?_
  refine GX.m rfl ?_
  refine GX.done ?_
  refine WK.ret ?_
  subst hR
  exact RetQ.fr [] (.inr rfl) rfl rfl rfl rfl

theorem f24_ok (w0 : TWorld) (l1 : List TAct) (hp0 : InvW w0) (R : TWorld) (hR : F24_redist_Run w0 l1 = R) : FnOk Try.prog 24 [.agg (TWorld.c w0), .ro 6 (l1.map TAct.c)] [] 0 (.agg (TWorld.c R)) [] 0 := by
 refine FnOk.wk i24 rfl rfl ?_
 unfold F24_redist_Run at hR
 change WK _ _ _ [ac24] _ ⟨[(0, .agg (TWorld.c w0)), (1, .ro 6 (l1.map TAct.c))], [], 0⟩
 unfold ac24
 refine WK.sr mixed ?_
 refine GX.step (v' := .ptr 0 0) (heap' := [(0, .box (TWorld.c w0))]) (next' := 1) rfl rfl rfl rfl rfl rfl rfl ?_
 refine GX.step (v' := .ptr 1 0) (heap' := [(0, .box (TWorld.c w0)), (1, .box [.nils])]) (next' := 2) rfl rfl rfl rfl rfl rfl rfl ?_
 refine GX.done ?_
 refine WK.seq ?_
 refine WK.sr mixed ?_
 refine GX.m rfl ?_
 refine GX.pure (v' := .int .i64 (l1.length : Int)) rfl rfl rfl rfl (len_map _ _) ?_
 refine GX.m rfl ?_
 refine GX.done ?_
 refine WK.len (t := 1) rfl (by simp) (fun hlen_8 => ?_)
 rw [List.length_map] at hlen_8
 generalize hZ_8 : F24_redist_Run_l1 w0 l1 = Z_8 at hR
 refine WK.forK (fun k s => ∃ (i9 : Nat) (w2 : TWorld), i9 ≤ l1.length ∧ k = l1.length - i9 ∧ InvW w2 ∧ F24_redist_Run_l1 w2 (l1.drop i9) = Z_8 ∧ s = ⟨[(2, .ptr 0 0), (4, .ptr 1 0), (7, .ro 6 (l1.map TAct.c)), (8, .int .i64 (l1.length : Int)), (9, .int .i64 (i9 : Int))], [(0, .box (TWorld.c w2)), (1, .box [.nils])], 2⟩) l1.length ⟨⟨[(2, .ptr 0 0), (4, .ptr 1 0), (7, .ro 6 (l1.map TAct.c)), (8, .int .i64 (l1.length : Int)), (9, .int .i64 (0 : Int))], [(0, .box (TWorld.c w0)), (1, .box [.nils])], 2⟩, Conv.keep [0, 1] [] [2, 4, 7, 8, 9] rfl rfl (viewE_cons rfl rfl (viewE_cons rfl rfl (viewE_cons rfl rfl (viewE_cons rfl rfl (viewE_cons rfl rfl viewE_nil))))) rfl rfl, 0, w0, (by omega), rfl, (by omega), hZ_8, rfl⟩ ?_
 rintro _ _ ⟨i9, w2, hi_8, rfl, hinv8_c0, hL_8, rfl⟩ again_8 out_8 Q_8 hagain_8 hout_8 hQ_8
 refine WK.sr mixed ?_
 refine GX.q (.bool (decide ((i9 : Int) < (l1.length : Int)))) ?_
 refine GX.done ?_
 refine WK.seq ?_
 rcases bool_two (decide ((i9 : Int) < (l1.length : Int))) with hb9 | hb9
 ·rw [hb9]
  rw [drop_end hb9, F24_redist_Run_l1] at hL_8
  refine WK.condF rfl ?_
  refine WK.exit ?_
  refine QF.exit (hout_8 _ ?_)
  subst hL_8
  try dsimp only [cond_true, cond_false] at hR
  refine WK.sr mixed ?_
  refine GX.q (.agg (TWorld.c w2)) ?_
  refine GX.step0 (heap' := [(0, .box (TWorld.c w2)), (1, .box (TWorld.c w2))]) (next' := 2) rfl rfl rfl rfl rfl ?_
  refine GX.done ?_
  refine WK.ret ?_
  subst hR
  exact RetQ.fr [] (.inr rfl) rfl rfl rfl rfl
 ·rw [hb9]
  obtain ⟨x9, hx8, hd8, hlt8⟩ := drop_more hb9
  rw [hd8, F24_redist_Run_l1] at hL_8
  refine WK.condT rfl ?_
  refine WK.skip ?_
  refine WK.seq ?_
  refine WK.blockK (fun _ hK10 => ?_)
  refine WK.sr mixed ?_
  refine GX.idxT (c := TAct.c) (x := x9) rfl rfl rfl (Int.natCast_nonneg _) hx8 ?_
  refine GX.q (.agg (TAct.c x9)) ?_
  refine GX.step (v' := .ptr 2 0) (heap' := [(0, .box (TWorld.c w2)), (1, .box [.nils]), (2, .box [.int .i64 0, .int .i64 0, .int .i64 0, .bool false, .int .u32 0, .int .i64 0])]) (next' := 3) rfl rfl rfl rfl rfl rfl rfl ?_
  refine GX.step0 (heap' := [(0, .box (TWorld.c w2)), (1, .box [.nils]), (2, .box (TAct.c x9))]) (next' := 3) rfl rfl rfl rfl rfl ?_
  refine GX.done ?_
  refine WK.sr mixed ?_
  refine GX.q (.ptr 2 0) ?_
  refine GX.q (.int .i64 x9.Kind) ?_
  refine GX.done ?_
  refine WK.blockK (fun _ hK11 => ?_)
  refine WK.sr mixed ?_
  refine GX.q (.bool (decide (x9.Kind = 1))) ?_
  refine GX.m rfl ?_
  refine GX.done ?_
  rcases bool_two (decide (x9.Kind = 1)) with hb12 | hb12
  ·rw [hb12]; try simp only [hb12, cond_true, cond_false, Bool.true_and, Bool.false_and, Bool.true_or, Bool.false_or, Bool.not_true, Bool.not_false] at hL_8
   refine WK.condF rfl ?_
   refine WK.sr mixed ?_
   refine GX.q (.bool (decide (x9.Kind = 2))) ?_
   refine GX.m rfl ?_
   refine GX.done ?_
   rcases bool_two (decide (x9.Kind = 2)) with hb13 | hb13
   ·rw [hb13]; try simp only [hb13, cond_true, cond_false, Bool.true_and, Bool.false_and, Bool.true_or, Bool.false_or, Bool.not_true, Bool.not_false] at hL_8
    refine WK.condF rfl ?_
    refine WK.sr mixed ?_
    refine GX.q (.bool (decide (x9.Kind = 3))) ?_
    refine GX.m rfl ?_
    refine GX.done ?_
    rcases bool_two (decide (x9.Kind = 3)) with hb14 | hb14
    ·rw [hb14]; try simp only [hb14, cond_true, cond_false, Bool.true_and, Bool.false_and, Bool.true_or, Bool.false_or, Bool.not_true, Bool.not_false] at hL_8
     refine WK.condF rfl ?_
     refine WK.skip ?_
     refine WK.nil (QF.normal (hK11 _ ?_))
     refine WK.nil (QF.normal (hK10 _ ?_))
     refine WK.regx mixed ?_
     refine GX.pure (v' := .int .i64 ((i9 + 1 : Nat) : Int)) rfl rfl rfl rfl (congrArg (PVal.int .i64) (wrap_up hlt8 hlen_8)) ?_
     refine GX.m rfl ?_
     refine GX.done ?_
     refine WK.nil (QF.normal ?_)
     exact hagain_8 _ (l1.length - (i9 + 1)) ⟨[(2, .ptr 0 0), (4, .ptr 1 0), (7, .ro 6 (l1.map TAct.c)), (8, .int .i64 (l1.length : Int)), (9, .int .i64 ((i9 + 1) : Int))], [(0, .box (TWorld.c w2)), (1, .box [.nils])], 2⟩ (by omega) (Conv.keep [0, 1] [] [2, 4, 7, 8, 9] rfl rfl (viewE_cons rfl rfl (viewE_cons rfl rfl (viewE_cons rfl rfl (viewE_cons rfl rfl (viewE_cons rfl rfl viewE_nil))))) rfl rfl) ⟨i9 + 1, w2, (by omega), rfl, (by omega), hL_8, rfl⟩
    ·rw [hb14]; try simp only [hb14, cond_true, cond_false, Bool.true_and, Bool.false_and, Bool.true_or, Bool.false_or, Bool.not_true, Bool.not_false] at hL_8
     refine WK.condT rfl ?_
     refine WK.regx mixed ?_
     refine GX.q (.agg (TWorld.c w2)) ?_
     refine GX.q (.ptr 2 1) ?_
     refine GX.q (.ptr 2 1) ?_
     refine GX.q (.int .i64 x9.B.From) ?_
     refine GX.q (.ptr 2 4) ?_
     refine GX.q (.agg [.int .u32 x9.P.A, .int .i64 x9.P.N]) ?_
     generalize hc48 : F19_redist_Cease w2 x9.B.From x9.P = c48 at hL_8
     have hpo0_c48 := post_i19 w2 x9.B.From x9.P (by omega); rw [hc48] at hpo0_c48
     obtain ⟨c48a, c48b⟩ := c48; try dsimp only at hL_8; try dsimp only at hpo0_c48
     refine GX.callp (r := .tup [.agg [.ro 3 (c48a.D.map TDomain.c)], .bool c48b]) rfl rfl rfl (f19_ok w2 x9.B.From x9.P (by omega) _ hc48) rfl rfl ?_
     refine GX.m rfl ?_
     refine GX.q (.agg [.ro 3 (c48a.D.map TDomain.c)]) ?_
     refine GX.q (.bool c48b) ?_
     refine GX.step0 (heap' := [(0, .box (TWorld.c c48a)), (1, .box [.nils]), (2, .box (TAct.c x9))]) (next' := 3) rfl rfl rfl rfl rfl ?_
     refine GX.done ?_
     refine WK.nil (QF.normal (hK11 _ ?_))
     refine WK.nil (QF.normal (hK10 _ ?_))
     refine WK.regx mixed ?_
     refine GX.pure (v' := .int .i64 ((i9 + 1 : Nat) : Int)) rfl rfl rfl rfl (congrArg (PVal.int .i64) (wrap_up hlt8 hlen_8)) ?_
     refine GX.m rfl ?_
     refine GX.done ?_
     refine WK.nil (QF.normal ?_)
     exact hagain_8 _ (l1.length - (i9 + 1)) ⟨[(2, .ptr 0 0), (4, .ptr 1 0), (7, .ro 6 (l1.map TAct.c)), (8, .int .i64 (l1.length : Int)), (9, .int .i64 ((i9 + 1) : Int))], [(0, .box (TWorld.c c48a)), (1, .box [.nils])], 2⟩ (by omega) (Conv.keep [0, 1] [] [2, 4, 7, 8, 9] rfl rfl (viewE_cons rfl rfl (viewE_cons rfl rfl (viewE_cons rfl rfl (viewE_cons rfl rfl (viewE_cons rfl rfl viewE_nil))))) rfl rfl) ⟨i9 + 1, c48a, (by omega), rfl, (by omega), hL_8, rfl⟩
   ·rw [hb13]; try simp only [hb13, cond_true, cond_false, Bool.true_and, Bool.false_and, Bool.true_or, Bool.false_or, Bool.not_true, Bool.not_false] at hL_8
    refine WK.condT rfl ?_
    refine WK.regx mixed ?_
    refine GX.q (.agg (TWorld.c w2)) ?_
    refine GX.q (.ptr 2 1) ?_
    refine GX.q (.agg [.int .i64 x9.B.From, .int .i64 x9.B.To, .bool x9.B.Provider]) ?_
    refine GX.q (.ptr 2 4) ?_
    refine GX.q (.agg [.int .u32 x9.P.A, .int .i64 x9.P.N]) ?_
    generalize hc35 : F17_redist_Tell w2 x9.B x9.P = c35 at hL_8
    have hpo0_c35 := post_i17 w2 x9.B x9.P (by omega); rw [hc35] at hpo0_c35
    obtain ⟨c35a, c35b, c35c⟩ := c35; try dsimp only at hL_8; try dsimp only at hpo0_c35
    refine GX.callp (r := .tup [.agg [.ro 3 (c35a.D.map TDomain.c)], .bool c35b, .int .i64 c35c]) rfl rfl rfl (f17_ok w2 x9.B x9.P (by omega) _ hc35) rfl rfl ?_
    refine GX.m rfl ?_
    refine GX.q (.agg [.ro 3 (c35a.D.map TDomain.c)]) ?_
    refine GX.q (.bool c35b) ?_
    refine GX.q (.int .i64 c35c) ?_
    refine GX.step0 (heap' := [(0, .box (TWorld.c c35a)), (1, .box [.nils]), (2, .box (TAct.c x9))]) (next' := 3) rfl rfl rfl rfl rfl ?_
    refine GX.done ?_
    refine WK.nil (QF.normal (hK11 _ ?_))
    refine WK.nil (QF.normal (hK10 _ ?_))
    refine WK.regx mixed ?_
    refine GX.pure (v' := .int .i64 ((i9 + 1 : Nat) : Int)) rfl rfl rfl rfl (congrArg (PVal.int .i64) (wrap_up hlt8 hlen_8)) ?_
    refine GX.m rfl ?_
    refine GX.done ?_
    refine WK.nil (QF.normal ?_)
    exact hagain_8 _ (l1.length - (i9 + 1)) ⟨[(2, .ptr 0 0), (4, .ptr 1 0), (7, .ro 6 (l1.map TAct.c)), (8, .int .i64 (l1.length : Int)), (9, .int .i64 ((i9 + 1) : Int))], [(0, .box (TWorld.c c35a)), (1, .box [.nils])], 2⟩ (by omega) (Conv.keep [0, 1] [] [2, 4, 7, 8, 9] rfl rfl (viewE_cons rfl rfl (viewE_cons rfl rfl (viewE_cons rfl rfl (viewE_cons rfl rfl (viewE_cons rfl rfl viewE_nil))))) rfl rfl) ⟨i9 + 1, c35a, (by omega), rfl, (by omega), hL_8, rfl⟩
  ·rw [hb12]; try simp only [hb12, cond_true, cond_false, Bool.true_and, Bool.false_and, Bool.true_or, Bool.false_or, Bool.not_true, Bool.not_false] at hL_8
   refine WK.condT rfl ?_
   refine WK.regx mixed ?_
   refine GX.q (.agg (TWorld.c w2)) ?_
   refine GX.q (.ptr 2 1) ?_
   refine GX.q (.ptr 2 1) ?_
   refine GX.q (.int .i64 x9.B.From) ?_
   refine GX.q (.ptr 2 4) ?_
   refine GX.q (.agg [.int .u32 x9.P.A, .int .i64 x9.P.N]) ?_
   generalize hc24 : F15_redist_Own w2 x9.B.From x9.P = c24 at hL_8
   have hpo0_c24 := post_i15 w2 x9.B.From x9.P (by omega); rw [hc24] at hpo0_c24
   obtain ⟨c24a, c24b⟩ := c24; try dsimp only at hL_8; try dsimp only at hpo0_c24
   refine GX.callp (r := .tup [.agg [.ro 3 (c24a.D.map TDomain.c)], .int .i64 c24b]) rfl rfl rfl (f15_ok w2 x9.B.From x9.P (by omega) _ hc24) rfl rfl ?_
   refine GX.m rfl ?_
   refine GX.q (.agg [.ro 3 (c24a.D.map TDomain.c)]) ?_
   refine GX.q (.int .i64 c24b) ?_
   refine GX.step0 (heap' := [(0, .box (TWorld.c c24a)), (1, .box [.nils]), (2, .box (TAct.c x9))]) (next' := 3) rfl rfl rfl rfl rfl ?_
   refine GX.done ?_
   refine WK.nil (QF.normal (hK11 _ ?_))
   refine WK.nil (QF.normal (hK10 _ ?_))
   refine WK.regx mixed ?_
   refine GX.pure (v' := .int .i64 ((i9 + 1 : Nat) : Int)) rfl rfl rfl rfl (congrArg (PVal.int .i64) (wrap_up hlt8 hlen_8)) ?_
   refine GX.m rfl ?_
   refine GX.done ?_
   refine WK.nil (QF.normal ?_)
   exact hagain_8 _ (l1.length - (i9 + 1)) ⟨[(2, .ptr 0 0), (4, .ptr 1 0), (7, .ro 6 (l1.map TAct.c)), (8, .int .i64 (l1.length : Int)), (9, .int .i64 ((i9 + 1) : Int))], [(0, .box (TWorld.c c24a)), (1, .box [.nils])], 2⟩ (by omega) (Conv.keep [0, 1] [] [2, 4, 7, 8, 9] rfl rfl (viewE_cons rfl rfl (viewE_cons rfl rfl (viewE_cons rfl rfl (viewE_cons rfl rfl (viewE_cons rfl rfl viewE_nil))))) rfl rfl) ⟨i9 + 1, c24a, (by omega), rfl, (by omega), hL_8, rfl⟩

theorem f25_ok (w0 : TWorld) (l1 : List TAct) (hp0 : InvW w0) (R : TWorld) (hR : F25_crossroadsref28_Run w0 l1 = R) : FnOk Try.prog 25 [.agg (TWorld.c w0), .ro 6 (l1.map TAct.c)] [] 0 (.agg (TWorld.c R)) [] 0 := by
 refine FnOk.wk i25 rfl rfl ?_
 unfold F25_crossroadsref28_Run at hR
 change WK _ _ _ [ac25] _ ⟨[(0, .agg (TWorld.c w0)), (1, .ro 6 (l1.map TAct.c))], [], 0⟩
 unfold ac25
 refine WK.sr mixed ?_
 refine GX.step (v' := .ptr 0 0) (heap' := [(0, .box (TWorld.c w0))]) (next' := 1) rfl rfl rfl rfl rfl rfl rfl ?_
 refine GX.step (v' := .ptr 1 0) (heap' := [(0, .box (TWorld.c w0)), (1, .box [.nils])]) (next' := 2) rfl rfl rfl rfl rfl rfl rfl ?_
 refine GX.done ?_
 refine WK.seq ?_
 refine WK.sr mixed ?_
 refine GX.m rfl ?_
 refine GX.done ?_
 refine WK.len (t := 1) rfl (by simp) (fun hlen_7 => ?_)
 rw [List.length_map] at hlen_7
 generalize hZ_7 : F25_crossroadsref28_Run_l1 w0 l1 = Z_7 at hR
 refine WK.forK (fun k s => ∃ (i5 : Nat) (w2 : TWorld), i5 ≤ l1.length ∧ k = l1.length - i5 ∧ InvW w2 ∧ F25_crossroadsref28_Run_l1 w2 (l1.drop i5) = Z_7 ∧ s = ⟨[(1, .ro 6 (l1.map TAct.c)), (2, .ptr 0 0), (4, .ptr 1 0), (5, .int .i64 (i5 : Int))], [(0, .box (TWorld.c w2)), (1, .box [.nils])], 2⟩) l1.length ⟨⟨[(1, .ro 6 (l1.map TAct.c)), (2, .ptr 0 0), (4, .ptr 1 0), (5, .int .i64 (0 : Int))], [(0, .box (TWorld.c w0)), (1, .box [.nils])], 2⟩, Conv.keep [0, 1] [] [1, 2, 4, 5] rfl rfl (viewE_cons rfl rfl (viewE_cons rfl rfl (viewE_cons rfl rfl (viewE_cons rfl rfl viewE_nil)))) rfl rfl, 0, w0, (by omega), rfl, (by omega), hZ_7, rfl⟩ ?_
 rintro _ _ ⟨i5, w2, hi_7, rfl, hinv7_c0, hL_7, rfl⟩ again_7 out_7 Q_7 hagain_7 hout_7 hQ_7
 refine WK.seq ?_
 refine WK.sr mixed ?_
 refine GX.m rfl ?_
 refine GX.m rfl ?_
 refine GX.pure (v' := .int .i64 (l1.length : Int)) rfl rfl rfl rfl (len_map _ _) ?_
 refine GX.q (.bool (decide ((i5 : Int) < (l1.length : Int)))) ?_
 refine GX.done ?_
 rcases bool_two (decide ((i5 : Int) < (l1.length : Int))) with hb8 | hb8
 ·rw [hb8]
  rw [drop_end hb8, F25_crossroadsref28_Run_l1] at hL_7
  refine WK.condF rfl ?_
  refine WK.exit ?_
  refine QF.exit (hout_7 _ ?_)
  subst hL_7
  try dsimp only [cond_true, cond_false] at hR
  refine WK.sr mixed ?_
  refine GX.q (.agg (TWorld.c w2)) ?_
  refine GX.step0 (heap' := [(0, .box (TWorld.c w2)), (1, .box (TWorld.c w2))]) (next' := 2) rfl rfl rfl rfl rfl ?_
  refine GX.done ?_
  refine WK.ret ?_
  subst hR
  exact RetQ.fr [] (.inr rfl) rfl rfl rfl rfl
 ·rw [hb8]
  obtain ⟨x5, hx7, hd7, hlt7⟩ := drop_more hb8
  rw [hd7, F25_crossroadsref28_Run_l1] at hL_7
  refine WK.condT rfl ?_
  refine WK.skip ?_
  refine WK.seq ?_
  refine WK.blockK (fun _ hK9 => ?_)
  refine WK.sr mixed ?_
  refine GX.m rfl ?_
  refine GX.m rfl ?_
  refine GX.idxT (c := TAct.c) (x := x5) rfl rfl rfl (Int.natCast_nonneg _) hx7 ?_
  refine GX.q (.agg (TAct.c x5)) ?_
  refine GX.step (v' := .ptr 2 0) (heap' := [(0, .box (TWorld.c w2)), (1, .box [.nils]), (2, .box [.int .i64 0, .int .i64 0, .int .i64 0, .bool false, .int .u32 0, .int .i64 0])]) (next' := 3) rfl rfl rfl rfl rfl rfl rfl ?_
  refine GX.step0 (heap' := [(0, .box (TWorld.c w2)), (1, .box [.nils]), (2, .box (TAct.c x5))]) (next' := 3) rfl rfl rfl rfl rfl ?_
  refine GX.done ?_
  refine WK.seq ?_
  refine WK.sr mixed ?_
  refine GX.q (.ptr 2 0) ?_
  refine GX.q (.int .i64 x5.Kind) ?_
  refine GX.q (.bool (decide (x5.Kind = 1))) ?_
  refine GX.done ?_
  rcases bool_two (decide (x5.Kind = 1)) with hb10 | hb10
  ·rw [hb10]; try simp only [hb10, cond_true, cond_false, Bool.true_and, Bool.false_and, Bool.true_or, Bool.false_or, Bool.not_true, Bool.not_false] at hL_7
   refine WK.condF rfl ?_
   refine WK.skip ?_
   refine WK.seq ?_
   refine WK.sr mixed ?_
   refine GX.q (.ptr 2 0) ?_
   refine GX.q (.int .i64 x5.Kind) ?_
   refine GX.q (.bool (decide (x5.Kind = 2))) ?_
   refine GX.done ?_
   rcases bool_two (decide (x5.Kind = 2)) with hb11 | hb11
   ·rw [hb11]; try simp only [hb11, cond_true, cond_false, Bool.true_and, Bool.false_and, Bool.true_or, Bool.false_or, Bool.not_true, Bool.not_false] at hL_7
    refine WK.condF rfl ?_
    refine WK.skip ?_
    refine WK.sr mixed ?_
    refine GX.q (.ptr 2 0) ?_
    refine GX.q (.int .i64 x5.Kind) ?_
    refine GX.q (.bool (decide (x5.Kind = 3))) ?_
    refine GX.done ?_
    rcases bool_two (decide (x5.Kind = 3)) with hb12 | hb12
    ·rw [hb12]; try simp only [hb12, cond_true, cond_false, Bool.true_and, Bool.false_and, Bool.true_or, Bool.false_or, Bool.not_true, Bool.not_false] at hL_7
     refine WK.condF rfl ?_
     refine WK.skip ?_
     refine WK.nil (QF.normal (hK9 _ ?_))
     refine WK.regx mixed ?_
     refine GX.m rfl ?_
     refine GX.pure (v' := .int .i64 ((i5 + 1 : Nat) : Int)) rfl rfl rfl rfl (congrArg (PVal.int .i64) (wrap_up hlt7 hlen_7)) ?_
     refine GX.m rfl ?_
     refine GX.done ?_
     refine WK.nil (QF.normal ?_)
     exact hagain_7 _ (l1.length - (i5 + 1)) ⟨[(1, .ro 6 (l1.map TAct.c)), (2, .ptr 0 0), (4, .ptr 1 0), (5, .int .i64 ((i5 + 1) : Int))], [(0, .box (TWorld.c w2)), (1, .box [.nils])], 2⟩ (by omega) (Conv.keep [0, 1] [] [1, 2, 4, 5] rfl rfl (viewE_cons rfl rfl (viewE_cons rfl rfl (viewE_cons rfl rfl (viewE_cons rfl rfl viewE_nil)))) rfl rfl) ⟨i5 + 1, w2, (by omega), rfl, (by omega), hL_7, rfl⟩
    ·rw [hb12]; try simp only [hb12, cond_true, cond_false, Bool.true_and, Bool.false_and, Bool.true_or, Bool.false_or, Bool.not_true, Bool.not_false] at hL_7
     refine WK.condT rfl ?_
     refine WK.sr mixed ?_
     refine GX.q (.agg (TWorld.c w2)) ?_
     refine GX.q (.ptr 2 1) ?_
     refine GX.q (.ptr 2 1) ?_
     refine GX.q (.int .i64 x5.B.From) ?_
     refine GX.q (.ptr 2 4) ?_
     refine GX.q (.agg [.int .u32 x5.P.A, .int .i64 x5.P.N]) ?_
     generalize hc62 : F20_crossroadsref28_Cease w2 x5.B.From x5.P = c62 at hL_7
     have hpo0_c62 := post_i20 w2 x5.B.From x5.P (by omega); rw [hc62] at hpo0_c62
     obtain ⟨c62a, c62b⟩ := c62; try dsimp only at hL_7; try dsimp only at hpo0_c62
     refine GX.callp (r := .tup [.agg [.ro 3 (c62a.D.map TDomain.c)], .bool c62b]) rfl rfl rfl (f20_ok w2 x5.B.From x5.P (by omega) _ hc62) rfl rfl ?_
     refine GX.m rfl ?_
     refine GX.q (.agg [.ro 3 (c62a.D.map TDomain.c)]) ?_
     refine GX.q (.bool c62b) ?_
     refine GX.step (v' := .ptr 3 0) (heap' := [(0, .box (TWorld.c w2)), (1, .box [.nils]), (2, .box (TAct.c x5)), (3, .box [.nils])]) (next' := 4) rfl rfl rfl rfl rfl rfl rfl ?_
     refine GX.step0 (heap' := [(0, .box (TWorld.c w2)), (1, .box [.nils]), (2, .box (TAct.c x5)), (3, .box (TWorld.c c62a))]) (next' := 4) rfl rfl rfl rfl rfl ?_
     refine GX.m rfl ?_
     refine GX.done ?_
     refine WK.regx mixed ?_
     refine GX.q (.agg (TWorld.c c62a)) ?_
     refine GX.step0 (heap' := [(0, .box (TWorld.c c62a)), (1, .box [.nils]), (2, .box (TAct.c x5)), (3, .box (TWorld.c c62a))]) (next' := 4) rfl rfl rfl rfl rfl ?_
     refine GX.done ?_
     refine WK.nil (QF.normal (hK9 _ ?_))
     refine WK.regx mixed ?_
     refine GX.m rfl ?_
     refine GX.pure (v' := .int .i64 ((i5 + 1 : Nat) : Int)) rfl rfl rfl rfl (congrArg (PVal.int .i64) (wrap_up hlt7 hlen_7)) ?_
     refine GX.m rfl ?_
     refine GX.done ?_
     refine WK.nil (QF.normal ?_)
     exact hagain_7 _ (l1.length - (i5 + 1)) ⟨[(1, .ro 6 (l1.map TAct.c)), (2, .ptr 0 0), (4, .ptr 1 0), (5, .int .i64 ((i5 + 1) : Int))], [(0, .box (TWorld.c c62a)), (1, .box [.nils])], 2⟩ (by omega) (Conv.keep [0, 1] [] [1, 2, 4, 5] rfl rfl (viewE_cons rfl rfl (viewE_cons rfl rfl (viewE_cons rfl rfl (viewE_cons rfl rfl viewE_nil)))) rfl rfl) ⟨i5 + 1, c62a, (by omega), rfl, (by omega), hL_7, rfl⟩
   ·rw [hb11]; try simp only [hb11, cond_true, cond_false, Bool.true_and, Bool.false_and, Bool.true_or, Bool.false_or, Bool.not_true, Bool.not_false] at hL_7
    refine WK.condT rfl ?_
    refine WK.sr mixed ?_
    refine GX.q (.agg (TWorld.c w2)) ?_
    refine GX.q (.ptr 2 1) ?_
    refine GX.q (.agg [.int .i64 x5.B.From, .int .i64 x5.B.To, .bool x5.B.Provider]) ?_
    refine GX.q (.ptr 2 4) ?_
    refine GX.q (.agg [.int .u32 x5.P.A, .int .i64 x5.P.N]) ?_
    generalize hc47 : F18_crossroadsref28_Tell w2 x5.B x5.P = c47 at hL_7
    have hpo0_c47 := post_i18 w2 x5.B x5.P (by omega); rw [hc47] at hpo0_c47
    obtain ⟨c47a, c47b, c47c⟩ := c47; try dsimp only at hL_7; try dsimp only at hpo0_c47
    refine GX.callp (r := .tup [.agg [.ro 3 (c47a.D.map TDomain.c)], .bool c47b, .int .i64 c47c]) rfl rfl rfl (f18_ok w2 x5.B x5.P (by omega) _ hc47) rfl rfl ?_
    refine GX.m rfl ?_
    refine GX.q (.agg [.ro 3 (c47a.D.map TDomain.c)]) ?_
    refine GX.q (.bool c47b) ?_
    refine GX.q (.int .i64 c47c) ?_
    refine GX.step (v' := .ptr 3 0) (heap' := [(0, .box (TWorld.c w2)), (1, .box [.nils]), (2, .box (TAct.c x5)), (3, .box [.nils])]) (next' := 4) rfl rfl rfl rfl rfl rfl rfl ?_
    refine GX.step0 (heap' := [(0, .box (TWorld.c w2)), (1, .box [.nils]), (2, .box (TAct.c x5)), (3, .box (TWorld.c c47a))]) (next' := 4) rfl rfl rfl rfl rfl ?_
    refine GX.m rfl ?_
    refine GX.m rfl ?_
    refine GX.done ?_
    refine WK.regx mixed ?_
    refine GX.q (.agg (TWorld.c c47a)) ?_
    refine GX.step0 (heap' := [(0, .box (TWorld.c c47a)), (1, .box [.nils]), (2, .box (TAct.c x5)), (3, .box (TWorld.c c47a))]) (next' := 4) rfl rfl rfl rfl rfl ?_
    refine GX.done ?_
    refine WK.sr mixed ?_
    refine GX.q (.ptr 2 0) ?_
    refine GX.q (.int .i64 x5.Kind) ?_
    refine GX.q (.bool (decide (x5.Kind = 3))) ?_
    refine GX.done ?_
    rcases bool_two (decide (x5.Kind = 3)) with hb13 | hb13
    ·rw [hb13]; try simp only [hb13, cond_true, cond_false, Bool.true_and, Bool.false_and, Bool.true_or, Bool.false_or, Bool.not_true, Bool.not_false] at hL_7
     refine WK.condF rfl ?_
     refine WK.skip ?_
     refine WK.nil (QF.normal (hK9 _ ?_))
     refine WK.regx mixed ?_
     refine GX.m rfl ?_
     refine GX.pure (v' := .int .i64 ((i5 + 1 : Nat) : Int)) rfl rfl rfl rfl (congrArg (PVal.int .i64) (wrap_up hlt7 hlen_7)) ?_
     refine GX.m rfl ?_
     refine GX.done ?_
     refine WK.nil (QF.normal ?_)
     exact hagain_7 _ (l1.length - (i5 + 1)) ⟨[(1, .ro 6 (l1.map TAct.c)), (2, .ptr 0 0), (4, .ptr 1 0), (5, .int .i64 ((i5 + 1) : Int))], [(0, .box (TWorld.c c47a)), (1, .box [.nils])], 2⟩ (by omega) (Conv.keep [0, 1] [] [1, 2, 4, 5] rfl rfl (viewE_cons rfl rfl (viewE_cons rfl rfl (viewE_cons rfl rfl (viewE_cons rfl rfl viewE_nil)))) rfl rfl) ⟨i5 + 1, c47a, (by omega), rfl, (by omega), hL_7, rfl⟩
    ·rw [hb13]; try simp only [hb13, cond_true, cond_false, Bool.true_and, Bool.false_and, Bool.true_or, Bool.false_or, Bool.not_true, Bool.not_false] at hL_7
     refine WK.condT rfl ?_
     refine WK.sr mixed ?_
     refine GX.q (.agg (TWorld.c c47a)) ?_
     refine GX.q (.ptr 2 1) ?_
     refine GX.q (.ptr 2 1) ?_
     refine GX.q (.int .i64 x5.B.From) ?_
     refine GX.q (.ptr 2 4) ?_
     refine GX.q (.agg [.int .u32 x5.P.A, .int .i64 x5.P.N]) ?_
     generalize hc62 : F20_crossroadsref28_Cease c47a x5.B.From x5.P = c62 at hL_7
     have hpo0_c62 := post_i20 c47a x5.B.From x5.P (by omega); rw [hc62] at hpo0_c62
     obtain ⟨c62a, c62b⟩ := c62; try dsimp only at hL_7; try dsimp only at hpo0_c62
     refine GX.callp (r := .tup [.agg [.ro 3 (c62a.D.map TDomain.c)], .bool c62b]) rfl rfl rfl (f20_ok c47a x5.B.From x5.P (by omega) _ hc62) rfl rfl ?_
     refine GX.m rfl ?_
     refine GX.q (.agg [.ro 3 (c62a.D.map TDomain.c)]) ?_
     refine GX.q (.bool c62b) ?_
     refine GX.step (v' := .ptr 4 0) (heap' := [(0, .box (TWorld.c c47a)), (1, .box [.nils]), (2, .box (TAct.c x5)), (3, .box (TWorld.c c47a)), (4, .box [.nils])]) (next' := 5) rfl rfl rfl rfl rfl rfl rfl ?_
     refine GX.step0 (heap' := [(0, .box (TWorld.c c47a)), (1, .box [.nils]), (2, .box (TAct.c x5)), (3, .box (TWorld.c c47a)), (4, .box (TWorld.c c62a))]) (next' := 5) rfl rfl rfl rfl rfl ?_
     refine GX.m rfl ?_
     refine GX.done ?_
     refine WK.regx mixed ?_
     refine GX.q (.agg (TWorld.c c62a)) ?_
     refine GX.step0 (heap' := [(0, .box (TWorld.c c62a)), (1, .box [.nils]), (2, .box (TAct.c x5)), (3, .box (TWorld.c c47a)), (4, .box (TWorld.c c62a))]) (next' := 5) rfl rfl rfl rfl rfl ?_
     refine GX.done ?_
     refine WK.nil (QF.normal (hK9 _ ?_))
     refine WK.regx mixed ?_
     refine GX.m rfl ?_
     refine GX.pure (v' := .int .i64 ((i5 + 1 : Nat) : Int)) rfl rfl rfl rfl (congrArg (PVal.int .i64) (wrap_up hlt7 hlen_7)) ?_
     refine GX.m rfl ?_
     refine GX.done ?_
     refine WK.nil (QF.normal ?_)
     exact hagain_7 _ (l1.length - (i5 + 1)) ⟨[(1, .ro 6 (l1.map TAct.c)), (2, .ptr 0 0), (4, .ptr 1 0), (5, .int .i64 ((i5 + 1) : Int))], [(0, .box (TWorld.c c62a)), (1, .box [.nils])], 2⟩ (by omega) (Conv.keep [0, 1] [] [1, 2, 4, 5] rfl rfl (viewE_cons rfl rfl (viewE_cons rfl rfl (viewE_cons rfl rfl (viewE_cons rfl rfl viewE_nil)))) rfl rfl) ⟨i5 + 1, c62a, (by omega), rfl, (by omega), hL_7, rfl⟩
  ·rw [hb10]; try simp only [hb10, cond_true, cond_false, Bool.true_and, Bool.false_and, Bool.true_or, Bool.false_or, Bool.not_true, Bool.not_false] at hL_7
   refine WK.condT rfl ?_
   refine WK.sr mixed ?_
   refine GX.q (.agg (TWorld.c w2)) ?_
   refine GX.q (.ptr 2 1) ?_
   refine GX.q (.ptr 2 1) ?_
   refine GX.q (.int .i64 x5.B.From) ?_
   refine GX.q (.ptr 2 4) ?_
   refine GX.q (.agg [.int .u32 x5.P.A, .int .i64 x5.P.N]) ?_
   generalize hc34 : F16_crossroadsref28_Own w2 x5.B.From x5.P = c34 at hL_7
   have hpo0_c34 := post_i16 w2 x5.B.From x5.P (by omega); rw [hc34] at hpo0_c34
   obtain ⟨c34a, c34b⟩ := c34; try dsimp only at hL_7; try dsimp only at hpo0_c34
   refine GX.callp (r := .tup [.agg [.ro 3 (c34a.D.map TDomain.c)], .int .i64 c34b]) rfl rfl rfl (f16_ok w2 x5.B.From x5.P (by omega) _ hc34) rfl rfl ?_
   refine GX.m rfl ?_
   refine GX.q (.agg [.ro 3 (c34a.D.map TDomain.c)]) ?_
   refine GX.q (.int .i64 c34b) ?_
   refine GX.step (v' := .ptr 3 0) (heap' := [(0, .box (TWorld.c w2)), (1, .box [.nils]), (2, .box (TAct.c x5)), (3, .box [.nils])]) (next' := 4) rfl rfl rfl rfl rfl rfl rfl ?_
   refine GX.step0 (heap' := [(0, .box (TWorld.c w2)), (1, .box [.nils]), (2, .box (TAct.c x5)), (3, .box (TWorld.c c34a))]) (next' := 4) rfl rfl rfl rfl rfl ?_
   refine GX.m rfl ?_
   refine GX.done ?_
   refine WK.regx mixed ?_
   refine GX.q (.agg (TWorld.c c34a)) ?_
   refine GX.step0 (heap' := [(0, .box (TWorld.c c34a)), (1, .box [.nils]), (2, .box (TAct.c x5)), (3, .box (TWorld.c c34a))]) (next' := 4) rfl rfl rfl rfl rfl ?_
   refine GX.done ?_
   refine WK.seq ?_
   refine WK.sr mixed ?_
   refine GX.q (.ptr 2 0) ?_
   refine GX.q (.int .i64 x5.Kind) ?_
   refine GX.q (.bool (decide (x5.Kind = 2))) ?_
   refine GX.done ?_
   rcases bool_two (decide (x5.Kind = 2)) with hb14 | hb14
   ·rw [hb14]; try simp only [hb14, cond_true, cond_false, Bool.true_and, Bool.false_and, Bool.true_or, Bool.false_or, Bool.not_true, Bool.not_false] at hL_7
    refine WK.condF rfl ?_
    refine WK.skip ?_
    refine WK.sr mixed ?_
    refine GX.q (.ptr 2 0) ?_
    refine GX.q (.int .i64 x5.Kind) ?_
    refine GX.q (.bool (decide (x5.Kind = 3))) ?_
    refine GX.done ?_
    rcases bool_two (decide (x5.Kind = 3)) with hb15 | hb15
    ·rw [hb15]; try simp only [hb15, cond_true, cond_false, Bool.true_and, Bool.false_and, Bool.true_or, Bool.false_or, Bool.not_true, Bool.not_false] at hL_7
     refine WK.condF rfl ?_
     refine WK.skip ?_
     refine WK.nil (QF.normal (hK9 _ ?_))
     refine WK.regx mixed ?_
     refine GX.m rfl ?_
     refine GX.pure (v' := .int .i64 ((i5 + 1 : Nat) : Int)) rfl rfl rfl rfl (congrArg (PVal.int .i64) (wrap_up hlt7 hlen_7)) ?_
     refine GX.m rfl ?_
     refine GX.done ?_
     refine WK.nil (QF.normal ?_)
     exact hagain_7 _ (l1.length - (i5 + 1)) ⟨[(1, .ro 6 (l1.map TAct.c)), (2, .ptr 0 0), (4, .ptr 1 0), (5, .int .i64 ((i5 + 1) : Int))], [(0, .box (TWorld.c c34a)), (1, .box [.nils])], 2⟩ (by omega) (Conv.keep [0, 1] [] [1, 2, 4, 5] rfl rfl (viewE_cons rfl rfl (viewE_cons rfl rfl (viewE_cons rfl rfl (viewE_cons rfl rfl viewE_nil)))) rfl rfl) ⟨i5 + 1, c34a, (by omega), rfl, (by omega), hL_7, rfl⟩
    ·rw [hb15]; try simp only [hb15, cond_true, cond_false, Bool.true_and, Bool.false_and, Bool.true_or, Bool.false_or, Bool.not_true, Bool.not_false] at hL_7
     refine WK.condT rfl ?_
     refine WK.sr mixed ?_
     refine GX.q (.agg (TWorld.c c34a)) ?_
     refine GX.q (.ptr 2 1) ?_
     refine GX.q (.ptr 2 1) ?_
     refine GX.q (.int .i64 x5.B.From) ?_
     refine GX.q (.ptr 2 4) ?_
     refine GX.q (.agg [.int .u32 x5.P.A, .int .i64 x5.P.N]) ?_
     generalize hc62 : F20_crossroadsref28_Cease c34a x5.B.From x5.P = c62 at hL_7
     have hpo0_c62 := post_i20 c34a x5.B.From x5.P (by omega); rw [hc62] at hpo0_c62
     obtain ⟨c62a, c62b⟩ := c62; try dsimp only at hL_7; try dsimp only at hpo0_c62
     refine GX.callp (r := .tup [.agg [.ro 3 (c62a.D.map TDomain.c)], .bool c62b]) rfl rfl rfl (f20_ok c34a x5.B.From x5.P (by omega) _ hc62) rfl rfl ?_
     refine GX.m rfl ?_
     refine GX.q (.agg [.ro 3 (c62a.D.map TDomain.c)]) ?_
     refine GX.q (.bool c62b) ?_
     refine GX.step (v' := .ptr 4 0) (heap' := [(0, .box (TWorld.c c34a)), (1, .box [.nils]), (2, .box (TAct.c x5)), (3, .box (TWorld.c c34a)), (4, .box [.nils])]) (next' := 5) rfl rfl rfl rfl rfl rfl rfl ?_
     refine GX.step0 (heap' := [(0, .box (TWorld.c c34a)), (1, .box [.nils]), (2, .box (TAct.c x5)), (3, .box (TWorld.c c34a)), (4, .box (TWorld.c c62a))]) (next' := 5) rfl rfl rfl rfl rfl ?_
     refine GX.m rfl ?_
     refine GX.done ?_
     refine WK.regx mixed ?_
     refine GX.q (.agg (TWorld.c c62a)) ?_
     refine GX.step0 (heap' := [(0, .box (TWorld.c c62a)), (1, .box [.nils]), (2, .box (TAct.c x5)), (3, .box (TWorld.c c34a)), (4, .box (TWorld.c c62a))]) (next' := 5) rfl rfl rfl rfl rfl ?_
     refine GX.done ?_
     refine WK.nil (QF.normal (hK9 _ ?_))
     refine WK.regx mixed ?_
     refine GX.m rfl ?_
     refine GX.pure (v' := .int .i64 ((i5 + 1 : Nat) : Int)) rfl rfl rfl rfl (congrArg (PVal.int .i64) (wrap_up hlt7 hlen_7)) ?_
     refine GX.m rfl ?_
     refine GX.done ?_
     refine WK.nil (QF.normal ?_)
     exact hagain_7 _ (l1.length - (i5 + 1)) ⟨[(1, .ro 6 (l1.map TAct.c)), (2, .ptr 0 0), (4, .ptr 1 0), (5, .int .i64 ((i5 + 1) : Int))], [(0, .box (TWorld.c c62a)), (1, .box [.nils])], 2⟩ (by omega) (Conv.keep [0, 1] [] [1, 2, 4, 5] rfl rfl (viewE_cons rfl rfl (viewE_cons rfl rfl (viewE_cons rfl rfl (viewE_cons rfl rfl viewE_nil)))) rfl rfl) ⟨i5 + 1, c62a, (by omega), rfl, (by omega), hL_7, rfl⟩
   ·rw [hb14]; try simp only [hb14, cond_true, cond_false, Bool.true_and, Bool.false_and, Bool.true_or, Bool.false_or, Bool.not_true, Bool.not_false] at hL_7
    refine WK.condT rfl ?_
    refine WK.sr mixed ?_
    refine GX.q (.agg (TWorld.c c34a)) ?_
    refine GX.q (.ptr 2 1) ?_
    refine GX.q (.agg [.int .i64 x5.B.From, .int .i64 x5.B.To, .bool x5.B.Provider]) ?_
    refine GX.q (.ptr 2 4) ?_
    refine GX.q (.agg [.int .u32 x5.P.A, .int .i64 x5.P.N]) ?_
    generalize hc47 : F18_crossroadsref28_Tell c34a x5.B x5.P = c47 at hL_7
    have hpo0_c47 := post_i18 c34a x5.B x5.P (by omega); rw [hc47] at hpo0_c47
    obtain ⟨c47a, c47b, c47c⟩ := c47; try dsimp only at hL_7; try dsimp only at hpo0_c47
    refine GX.callp (r := .tup [.agg [.ro 3 (c47a.D.map TDomain.c)], .bool c47b, .int .i64 c47c]) rfl rfl rfl (f18_ok c34a x5.B x5.P (by omega) _ hc47) rfl rfl ?_
    refine GX.m rfl ?_
    refine GX.q (.agg [.ro 3 (c47a.D.map TDomain.c)]) ?_
    refine GX.q (.bool c47b) ?_
    refine GX.q (.int .i64 c47c) ?_
    refine GX.step (v' := .ptr 4 0) (heap' := [(0, .box (TWorld.c c34a)), (1, .box [.nils]), (2, .box (TAct.c x5)), (3, .box (TWorld.c c34a)), (4, .box [.nils])]) (next' := 5) rfl rfl rfl rfl rfl rfl rfl ?_
    refine GX.step0 (heap' := [(0, .box (TWorld.c c34a)), (1, .box [.nils]), (2, .box (TAct.c x5)), (3, .box (TWorld.c c34a)), (4, .box (TWorld.c c47a))]) (next' := 5) rfl rfl rfl rfl rfl ?_
    refine GX.m rfl ?_
    refine GX.m rfl ?_
    refine GX.done ?_
    refine WK.regx mixed ?_
    refine GX.q (.agg (TWorld.c c47a)) ?_
    refine GX.step0 (heap' := [(0, .box (TWorld.c c47a)), (1, .box [.nils]), (2, .box (TAct.c x5)), (3, .box (TWorld.c c34a)), (4, .box (TWorld.c c47a))]) (next' := 5) rfl rfl rfl rfl rfl ?_
    refine GX.done ?_
    refine WK.sr mixed ?_
    refine GX.q (.ptr 2 0) ?_
    refine GX.q (.int .i64 x5.Kind) ?_
    refine GX.q (.bool (decide (x5.Kind = 3))) ?_
    refine GX.done ?_
    rcases bool_two (decide (x5.Kind = 3)) with hb16 | hb16
    ·rw [hb16]; try simp only [hb16, cond_true, cond_false, Bool.true_and, Bool.false_and, Bool.true_or, Bool.false_or, Bool.not_true, Bool.not_false] at hL_7
     refine WK.condF rfl ?_
     refine WK.skip ?_
     refine WK.nil (QF.normal (hK9 _ ?_))
     refine WK.regx mixed ?_
     refine GX.m rfl ?_
     refine GX.pure (v' := .int .i64 ((i5 + 1 : Nat) : Int)) rfl rfl rfl rfl (congrArg (PVal.int .i64) (wrap_up hlt7 hlen_7)) ?_
     refine GX.m rfl ?_
     refine GX.done ?_
     refine WK.nil (QF.normal ?_)
     exact hagain_7 _ (l1.length - (i5 + 1)) ⟨[(1, .ro 6 (l1.map TAct.c)), (2, .ptr 0 0), (4, .ptr 1 0), (5, .int .i64 ((i5 + 1) : Int))], [(0, .box (TWorld.c c47a)), (1, .box [.nils])], 2⟩ (by omega) (Conv.keep [0, 1] [] [1, 2, 4, 5] rfl rfl (viewE_cons rfl rfl (viewE_cons rfl rfl (viewE_cons rfl rfl (viewE_cons rfl rfl viewE_nil)))) rfl rfl) ⟨i5 + 1, c47a, (by omega), rfl, (by omega), hL_7, rfl⟩
    ·rw [hb16]; try simp only [hb16, cond_true, cond_false, Bool.true_and, Bool.false_and, Bool.true_or, Bool.false_or, Bool.not_true, Bool.not_false] at hL_7
     refine WK.condT rfl ?_
     refine WK.sr mixed ?_
     refine GX.q (.agg (TWorld.c c47a)) ?_
     refine GX.q (.ptr 2 1) ?_
     refine GX.q (.ptr 2 1) ?_
     refine GX.q (.int .i64 x5.B.From) ?_
     refine GX.q (.ptr 2 4) ?_
     refine GX.q (.agg [.int .u32 x5.P.A, .int .i64 x5.P.N]) ?_
     generalize hc62 : F20_crossroadsref28_Cease c47a x5.B.From x5.P = c62 at hL_7
     have hpo0_c62 := post_i20 c47a x5.B.From x5.P (by omega); rw [hc62] at hpo0_c62
     obtain ⟨c62a, c62b⟩ := c62; try dsimp only at hL_7; try dsimp only at hpo0_c62
     refine GX.callp (r := .tup [.agg [.ro 3 (c62a.D.map TDomain.c)], .bool c62b]) rfl rfl rfl (f20_ok c47a x5.B.From x5.P (by omega) _ hc62) rfl rfl ?_
     refine GX.m rfl ?_
     refine GX.q (.agg [.ro 3 (c62a.D.map TDomain.c)]) ?_
     refine GX.q (.bool c62b) ?_
     refine GX.step (v' := .ptr 5 0) (heap' := [(0, .box (TWorld.c c47a)), (1, .box [.nils]), (2, .box (TAct.c x5)), (3, .box (TWorld.c c34a)), (4, .box (TWorld.c c47a)), (5, .box [.nils])]) (next' := 6) rfl rfl rfl rfl rfl rfl rfl ?_
     refine GX.step0 (heap' := [(0, .box (TWorld.c c47a)), (1, .box [.nils]), (2, .box (TAct.c x5)), (3, .box (TWorld.c c34a)), (4, .box (TWorld.c c47a)), (5, .box (TWorld.c c62a))]) (next' := 6) rfl rfl rfl rfl rfl ?_
     refine GX.m rfl ?_
     refine GX.done ?_
     refine WK.regx mixed ?_
     refine GX.q (.agg (TWorld.c c62a)) ?_
     refine GX.step0 (heap' := [(0, .box (TWorld.c c62a)), (1, .box [.nils]), (2, .box (TAct.c x5)), (3, .box (TWorld.c c34a)), (4, .box (TWorld.c c47a)), (5, .box (TWorld.c c62a))]) (next' := 6) rfl rfl rfl rfl rfl ?_
     refine GX.done ?_
     refine WK.nil (QF.normal (hK9 _ ?_))
     refine WK.regx mixed ?_
     refine GX.m rfl ?_
     refine GX.pure (v' := .int .i64 ((i5 + 1 : Nat) : Int)) rfl rfl rfl rfl (congrArg (PVal.int .i64) (wrap_up hlt7 hlen_7)) ?_
     refine GX.m rfl ?_
     refine GX.done ?_
     refine WK.nil (QF.normal ?_)
     exact hagain_7 _ (l1.length - (i5 + 1)) ⟨[(1, .ro 6 (l1.map TAct.c)), (2, .ptr 0 0), (4, .ptr 1 0), (5, .int .i64 ((i5 + 1) : Int))], [(0, .box (TWorld.c c62a)), (1, .box [.nils])], 2⟩ (by omega) (Conv.keep [0, 1] [] [1, 2, 4, 5] rfl rfl (viewE_cons rfl rfl (viewE_cons rfl rfl (viewE_cons rfl rfl (viewE_cons rfl rfl viewE_nil)))) rfl rfl) ⟨i5 + 1, c62a, (by omega), rfl, (by omega), hL_7, rfl⟩

theorem f47_ok (s10 : List TDomain) (s21 : List TDomain) (geq2 : FuncId) (geq2f geq2c : List PVal) (heq2 : TDomain → TDomain → Bool) (geq2k : PVal.closed.go geq2f = true ∧ PVal.closed.go geq2c = true) (geq2o : ∀ (y0 : TDomain) (y1 : TDomain) (R : Bool), heq2 y0 y1 = R → FnOk Try.prog geq2 (geq2f ++ [.agg (TDomain.c y0), .agg (TDomain.c y1)] ++ geq2c) [] 0 (.bool R) [] 0) (R : Bool) (hR : F47_slices_EqualFunc s10 s21 heq2 = R) : FnOk Try.prog 47 [.ro 3 (s10.map TDomain.c), .ro 3 (s21.map TDomain.c), .fn geq2 geq2f geq2c] [] 0 (.bool R) [] 0 := by
 refine FnOk.wk i47 rfl rfl ?_
 unfold F47_slices_EqualFunc at hR
 change WK _ _ _ [ac47] _ ⟨[(0, .ro 3 (s10.map TDomain.c)), (1, .ro 3 (s21.map TDomain.c)), (2, .fn geq2 geq2f geq2c)], [], 0⟩
 unfold ac47
 refine WK.sr mixed ?_
 refine GX.m rfl ?_
 refine GX.done ?_
 refine WK.seq ?_
 refine WK.sr mixed ?_
 refine GX.m rfl ?_
 refine GX.pure (v' := .int .i64 (s10.length : Int)) rfl rfl rfl rfl (len_map _ _) ?_
 refine GX.m rfl ?_
 refine GX.pure (v' := .int .i64 (s21.length : Int)) rfl rfl rfl rfl (len_map _ _) ?_
 refine GX.q (.bool (!decide ((s10.length : Int) = (s21.length : Int)))) ?_
 refine GX.done ?_
 rcases bool_two (decide ((s10.length : Int) = (s21.length : Int))) with hb1 | hb1
 ·rw [hb1]; try simp only [hb1, cond_true, cond_false, Bool.true_and, Bool.false_and, Bool.true_or, Bool.false_or, Bool.not_true, Bool.not_false] at hR
  refine WK.condT rfl ?_
  refine WK.sr mixed ?_
  refine GX.m rfl ?_
  refine GX.done ?_
  refine WK.ret ?_
  subst hR
  exact RetQ.fr [] (.inr rfl) rfl rfl rfl rfl
 ·rw [hb1]; try simp only [hb1, cond_true, cond_false, Bool.true_and, Bool.false_and, Bool.true_or, Bool.false_or, Bool.not_true, Bool.not_false] at hR
  refine WK.condF rfl ?_
  refine WK.skip ?_
  refine WK.seq ?_
  refine WK.sr mixed ?_
  refine GX.m rfl ?_
  refine GX.pure (v' := .int .i64 (s10.length : Int)) rfl rfl rfl rfl (len_map _ _) ?_
  refine GX.m rfl ?_
  refine GX.done ?_
  refine WK.len (t := 0) rfl (by simp) (fun hlen_2 => ?_)
  rw [List.length_map] at hlen_2
  generalize hZ_2 : F47_slices_EqualFunc_l1 s21 heq2 0 s10 = Z_2 at hR
  refine WK.forK (fun k s => ∃ (i17 : Nat), i17 ≤ s10.length ∧ k = s10.length - i17 ∧ F47_slices_EqualFunc_l1 s21 heq2 i17 (s10.drop i17) = Z_2 ∧ s = ⟨[(1, .ro 3 (s21.map TDomain.c)), (2, .fn geq2 geq2f geq2c), (15, .ro 3 (s10.map TDomain.c)), (16, .int .i64 (s10.length : Int)), (17, .int .i64 (i17 : Int))], [], 0⟩) s10.length ⟨⟨[(1, .ro 3 (s21.map TDomain.c)), (2, .fn geq2 geq2f geq2c), (15, .ro 3 (s10.map TDomain.c)), (16, .int .i64 (s10.length : Int)), (17, .int .i64 (0 : Int))], [], 0⟩, Conv.keep [] [] [1, 2, 15, 16, 17] rfl rfl (viewE_cons rfl rfl (viewE_cons rfl (viewP_fnc geq2k) (viewE_cons rfl rfl (viewE_cons rfl rfl (viewE_cons rfl rfl viewE_nil))))) rfl rfl, 0, (by omega), rfl, hZ_2, rfl⟩ ?_
  rintro _ _ ⟨i17, hi_2, rfl, hL_2, rfl⟩ again_2 out_2 Q_2 hagain_2 hout_2 hQ_2
  refine WK.sr mixed ?_
  refine GX.q (.bool (decide ((i17 : Int) < (s10.length : Int)))) ?_
  refine GX.done ?_
  refine WK.seq ?_
  rcases bool_two (decide ((i17 : Int) < (s10.length : Int))) with hb3 | hb3
  ·rw [hb3]
   rw [drop_end hb3, F47_slices_EqualFunc_l1] at hL_2
   refine WK.condF rfl ?_
   refine WK.exit ?_
   refine QF.exit (hout_2 _ ?_)
   subst hL_2
   try dsimp only [cond_true, cond_false] at hR
   refine WK.sr mixed ?_
   refine GX.m rfl ?_
   refine GX.done ?_
   refine WK.ret ?_
   subst hR
   exact RetQ.fr [] (.inr rfl) rfl rfl rfl rfl
  ·rw [hb3]
   obtain ⟨x17, hx2, hd2, hlt2⟩ := drop_more hb3
   rw [hd2, F47_slices_EqualFunc_l1] at hL_2
   refine WK.condT rfl ?_
   refine WK.skip ?_
   refine WK.seq ?_
   refine WK.blockK (fun _ hK4 => ?_)
   refine WK.sr mixed ?_
   refine GX.m rfl ?_
   refine GX.idxT (c := TDomain.c) (x := x17) rfl rfl rfl (Int.natCast_nonneg _) hx2 ?_
   refine GX.q (.agg (TDomain.c x17)) ?_
   refine GX.step (v' := .ptr 0 0) (heap' := [(0, .box [.int .u32 0, .nils, .nils])]) (next' := 1) rfl rfl rfl rfl rfl rfl rfl ?_
   refine GX.m rfl ?_
   refine GX.step0 (heap' := [(0, .box (TDomain.c x17))]) (next' := 1) rfl rfl rfl rfl rfl ?_
   refine GX.done ?_
   refine WK.sr mixed ?_
   refine GX.m rfl ?_
   refine GX.m rfl ?_
   refine GX.idxT (c := TDomain.c) (x := (s21.getD i17 default)) rfl rfl rfl (Int.natCast_nonneg _) (getD_at (by ((try simp only [decide_eq_true_eq, decide_eq_false_iff_not, Bool.not_eq_true, Bool.not_eq_false] at *); first | omega | (rw [wrap64_of (by omega) (by omega)]; omega) | (unfold min_ max_; (repeat' split) <;> first | omega | (rw [wrap64_of (by omega) (by omega)]; omega))))) ?_
   refine GX.q (.agg [.int .u32 ((s21.getD i17 default).Tag), .ro 2 (((s21.getD i17 default).In).map TPrefix.c), .ro 4 (((s21.getD i17 default).Ext).map TExt.c)]) ?_
   refine GX.step (v' := .ptr 1 0) (heap' := [(0, .box (TDomain.c x17)), (1, .box [.int .u32 0, .nils, .nils])]) (next' := 2) rfl rfl rfl rfl rfl rfl rfl ?_
   refine GX.step0 (heap' := [(0, .box (TDomain.c x17)), (1, .box [.int .u32 ((s21.getD i17 default).Tag), .ro 2 (((s21.getD i17 default).In).map TPrefix.c), .ro 4 (((s21.getD i17 default).Ext).map TExt.c)])]) (next' := 2) rfl rfl rfl rfl rfl ?_
   refine GX.done ?_
   refine WK.sr mixed ?_
   refine GX.m rfl ?_
   refine GX.q (.agg (TDomain.c x17)) ?_
   refine GX.q (.agg [.int .u32 ((s21.getD i17 default).Tag), .ro 2 (((s21.getD i17 default).In).map TPrefix.c), .ro 4 (((s21.getD i17 default).Ext).map TExt.c)]) ?_
   generalize hc29 : heq2 x17 (s21.getD i17 default) = c29 at hL_2
   try dsimp only at hL_2
   refine GX.callvp (r := .bool c29) rfl rfl rfl (geq2o x17 (s21.getD i17 default) _ hc29) (closed3 geq2k.1 rfl geq2k.2) rfl ?_
   refine GX.q (.bool (!c29)) ?_
   refine GX.done ?_
   rcases bool_two (c29) with hb5 | hb5
   ·rw [hb5]; try simp only [hb5, cond_true, cond_false, Bool.true_and, Bool.false_and, Bool.true_or, Bool.false_or, Bool.not_true, Bool.not_false] at hL_2
    refine WK.condT rfl ?_
    refine WK.sr mixed ?_
    refine GX.m rfl ?_
    refine GX.done ?_
    refine WK.ret ?_
    refine QF.ret ?_
    refine QF.ret (hQ_2 _ _ ?_)
    subst hL_2
    subst hR
    exact RetQ.fr [] (.inr rfl) rfl rfl rfl rfl
   ·rw [hb5]; try simp only [hb5, cond_true, cond_false, Bool.true_and, Bool.false_and, Bool.true_or, Bool.false_or, Bool.not_true, Bool.not_false] at hL_2
    refine WK.condF rfl ?_
    refine WK.skip ?_
    refine WK.nil (QF.normal (hK4 _ ?_))
    refine WK.regx mixed ?_
    refine GX.pure (v' := .int .i64 ((i17 + 1 : Nat) : Int)) rfl rfl rfl rfl (congrArg (PVal.int .i64) (wrap_up hlt2 hlen_2)) ?_
    refine GX.m rfl ?_
    refine GX.done ?_
    refine WK.nil (QF.normal ?_)
    exact hagain_2 _ (s10.length - (i17 + 1)) ⟨[(1, .ro 3 (s21.map TDomain.c)), (2, .fn geq2 geq2f geq2c), (15, .ro 3 (s10.map TDomain.c)), (16, .int .i64 (s10.length : Int)), (17, .int .i64 ((i17 + 1) : Int))], [], 0⟩ (by omega) (Conv.keep [] [] [1, 2, 15, 16, 17] rfl rfl (viewE_cons rfl rfl (viewE_cons rfl (viewP_fnc geq2k) (viewE_cons rfl rfl (viewE_cons rfl rfl (viewE_cons rfl rfl viewE_nil))))) rfl rfl) ⟨i17 + 1, (by omega), rfl, hL_2, rfl⟩

theorem f49_ok (s10 : List TPrefix) (s21 : List TPrefix) (R : Bool) (hR : F49_slices_Equal s10 s21 = R) : FnOk Try.prog 49 [.ro 2 (s10.map TPrefix.c), .ro 2 (s21.map TPrefix.c)] [] 0 (.bool R) [] 0 := by
 refine FnOk.wk i49 rfl rfl ?_
 unfold F49_slices_Equal at hR
 change WK _ _ _ [ac49] _ ⟨[(0, .ro 2 (s10.map TPrefix.c)), (1, .ro 2 (s21.map TPrefix.c))], [], 0⟩
 unfold ac49
 refine WK.sr mixed ?_
 refine GX.m rfl ?_
 refine GX.done ?_
 refine WK.seq ?_
 refine WK.sr mixed ?_
 refine GX.m rfl ?_
 refine GX.pure (v' := .int .i64 (s10.length : Int)) rfl rfl rfl rfl (len_map _ _) ?_
 refine GX.m rfl ?_
 refine GX.pure (v' := .int .i64 (s21.length : Int)) rfl rfl rfl rfl (len_map _ _) ?_
 refine GX.q (.bool (!decide ((s10.length : Int) = (s21.length : Int)))) ?_
 refine GX.done ?_
 rcases bool_two (decide ((s10.length : Int) = (s21.length : Int))) with hb1 | hb1
 ·rw [hb1]; try simp only [hb1, cond_true, cond_false, Bool.true_and, Bool.false_and, Bool.true_or, Bool.false_or, Bool.not_true, Bool.not_false] at hR
  refine WK.condT rfl ?_
  refine WK.sr mixed ?_
  refine GX.m rfl ?_
  refine GX.done ?_
  refine WK.ret ?_
  subst hR
  exact RetQ.fr [] (.inr rfl) rfl rfl rfl rfl
 ·rw [hb1]; try simp only [hb1, cond_true, cond_false, Bool.true_and, Bool.false_and, Bool.true_or, Bool.false_or, Bool.not_true, Bool.not_false] at hR
  refine WK.condF rfl ?_
  refine WK.skip ?_
  refine WK.seq ?_
  refine WK.sr mixed ?_
  refine GX.m rfl ?_
  refine GX.pure (v' := .int .i64 (s10.length : Int)) rfl rfl rfl rfl (len_map _ _) ?_
  refine GX.m rfl ?_
  refine GX.done ?_
  refine WK.len (t := 0) rfl (by simp) (fun hlen_2 => ?_)
  rw [List.length_map] at hlen_2
  generalize hZ_2 : F49_slices_Equal_l1 s21 0 s10 = Z_2 at hR
  refine WK.forK (fun k s => ∃ (i13 : Nat), i13 ≤ s10.length ∧ k = s10.length - i13 ∧ F49_slices_Equal_l1 s21 i13 (s10.drop i13) = Z_2 ∧ s = ⟨[(0, .ro 2 (s10.map TPrefix.c)), (1, .ro 2 (s21.map TPrefix.c)), (12, .int .i64 (s10.length : Int)), (13, .int .i64 (i13 : Int))], [], 0⟩) s10.length ⟨⟨[(0, .ro 2 (s10.map TPrefix.c)), (1, .ro 2 (s21.map TPrefix.c)), (12, .int .i64 (s10.length : Int)), (13, .int .i64 (0 : Int))], [], 0⟩, Conv.keep [] [] [0, 1, 12, 13] rfl rfl (viewE_cons rfl rfl (viewE_cons rfl rfl (viewE_cons rfl rfl (viewE_cons rfl rfl viewE_nil)))) rfl rfl, 0, (by omega), rfl, hZ_2, rfl⟩ ?_
  rintro _ _ ⟨i13, hi_2, rfl, hL_2, rfl⟩ again_2 out_2 Q_2 hagain_2 hout_2 hQ_2
  refine WK.sr mixed ?_
  refine GX.q (.bool (decide ((i13 : Int) < (s10.length : Int)))) ?_
  refine GX.done ?_
  refine WK.seq ?_
  rcases bool_two (decide ((i13 : Int) < (s10.length : Int))) with hb3 | hb3
  ·rw [hb3]
   rw [drop_end hb3, F49_slices_Equal_l1] at hL_2
   refine WK.condF rfl ?_
   refine WK.exit ?_
   refine QF.exit (hout_2 _ ?_)
   subst hL_2
   try dsimp only [cond_true, cond_false] at hR
   refine WK.sr mixed ?_
   refine GX.m rfl ?_
   refine GX.done ?_
   refine WK.ret ?_
   subst hR
   exact RetQ.fr [] (.inr rfl) rfl rfl rfl rfl
  ·rw [hb3]
   obtain ⟨x13, hx2, hd2, hlt2⟩ := drop_more hb3
   rw [hd2, F49_slices_Equal_l1] at hL_2
   refine WK.condT rfl ?_
   refine WK.skip ?_
   refine WK.seq ?_
   refine WK.blockK (fun _ hK4 => ?_)
   refine WK.sr mixed ?_
   refine GX.m rfl ?_
   refine GX.m rfl ?_
   refine GX.done ?_
   refine WK.seq ?_
   refine WK.drawn mixed ?_
   refine RD.m rfl ?_
   refine RD.m rfl ?_
   refine RD.idxT (c := TPrefix.c) (x := x13) rfl rfl rfl (Int.natCast_nonneg _) hx2 ?_
   refine RD.q (.agg (TPrefix.c x13)) ?_
   refine RD.m rfl ?_
   refine RD.m rfl ?_
   refine RD.idxT (c := TPrefix.c) (x := (s21.getD i13 default)) rfl rfl rfl (Int.natCast_nonneg _) (getD_at (by ((try simp only [decide_eq_true_eq, decide_eq_false_iff_not, Bool.not_eq_true, Bool.not_eq_false] at *); first | omega | (rw [wrap64_of (by omega) (by omega)]; omega) | (unfold min_ max_; (repeat' split) <;> first | omega | (rw [wrap64_of (by omega) (by omega)]; omega))))) ?_
   refine RD.q (.agg [.int .u32 ((s21.getD i13 default).A), .int .i64 ((s21.getD i13 default).N)]) ?_
   refine RD.q (.bool (!(decide (x13.A = (s21.getD i13 default).A) && (decide (x13.N = (s21.getD i13 default).N) && true)))) ?_
   refine RD.done rfl ?_
   rcases bool_two (decide (x13.A = (s21.getD i13 default).A) && (decide (x13.N = (s21.getD i13 default).N) && true)) with hb5 | hb5
   ·rw [hb5]; try simp only [hb5, cond_true, cond_false, Bool.true_and, Bool.false_and, Bool.true_or, Bool.false_or, Bool.not_true, Bool.not_false] at hL_2
    refine WK.condT rfl ?_
    refine WK.sr mixed ?_
    refine GX.m rfl ?_
    refine GX.done ?_
    refine WK.ret ?_
    refine QF.ret ?_
    refine QF.ret (hQ_2 _ _ ?_)
    subst hL_2
    subst hR
    exact RetQ.fr [] (.inr rfl) rfl rfl rfl rfl
   ·rw [hb5]; try simp only [hb5, cond_true, cond_false, Bool.true_and, Bool.false_and, Bool.true_or, Bool.false_or, Bool.not_true, Bool.not_false] at hL_2
    refine WK.condF rfl ?_
    refine WK.skip ?_
    refine WK.nil (QF.normal (hK4 _ ?_))
    refine WK.regx mixed ?_
    refine GX.pure (v' := .int .i64 ((i13 + 1 : Nat) : Int)) rfl rfl rfl rfl (congrArg (PVal.int .i64) (wrap_up hlt2 hlen_2)) ?_
    refine GX.m rfl ?_
    refine GX.done ?_
    refine WK.nil (QF.normal ?_)
    exact hagain_2 _ (s10.length - (i13 + 1)) ⟨[(0, .ro 2 (s10.map TPrefix.c)), (1, .ro 2 (s21.map TPrefix.c)), (12, .int .i64 (s10.length : Int)), (13, .int .i64 ((i13 + 1) : Int))], [], 0⟩ (by omega) (Conv.keep [] [] [0, 1, 12, 13] rfl rfl (viewE_cons rfl rfl (viewE_cons rfl rfl (viewE_cons rfl rfl (viewE_cons rfl rfl viewE_nil)))) rfl rfl) ⟨i13 + 1, (by omega), rfl, hL_2, rfl⟩

theorem f50_ok (s10 : List TExt) (s21 : List TExt) (R : Bool) (hR : F50_slices_Equal s10 s21 = R) : FnOk Try.prog 50 [.ro 4 (s10.map TExt.c), .ro 4 (s21.map TExt.c)] [] 0 (.bool R) [] 0 := by
 refine FnOk.wk i50 rfl rfl ?_
 unfold F50_slices_Equal at hR
 change WK _ _ _ [ac50] _ ⟨[(0, .ro 4 (s10.map TExt.c)), (1, .ro 4 (s21.map TExt.c))], [], 0⟩
 unfold ac50
 refine WK.sr mixed ?_
 refine GX.m rfl ?_
 refine GX.done ?_
 refine WK.seq ?_
 refine WK.sr mixed ?_
 refine GX.m rfl ?_
 refine GX.pure (v' := .int .i64 (s10.length : Int)) rfl rfl rfl rfl (len_map _ _) ?_
 refine GX.m rfl ?_
 refine GX.pure (v' := .int .i64 (s21.length : Int)) rfl rfl rfl rfl (len_map _ _) ?_
 refine GX.q (.bool (!decide ((s10.length : Int) = (s21.length : Int)))) ?_
 refine GX.done ?_
 rcases bool_two (decide ((s10.length : Int) = (s21.length : Int))) with hb1 | hb1
 ·rw [hb1]; try simp only [hb1, cond_true, cond_false, Bool.true_and, Bool.false_and, Bool.true_or, Bool.false_or, Bool.not_true, Bool.not_false] at hR
  refine WK.condT rfl ?_
  refine WK.sr mixed ?_
  refine GX.m rfl ?_
  refine GX.done ?_
  refine WK.ret ?_
  subst hR
  exact RetQ.fr [] (.inr rfl) rfl rfl rfl rfl
 ·rw [hb1]; try simp only [hb1, cond_true, cond_false, Bool.true_and, Bool.false_and, Bool.true_or, Bool.false_or, Bool.not_true, Bool.not_false] at hR
  refine WK.condF rfl ?_
  refine WK.skip ?_
  refine WK.seq ?_
  refine WK.sr mixed ?_
  refine GX.m rfl ?_
  refine GX.pure (v' := .int .i64 (s10.length : Int)) rfl rfl rfl rfl (len_map _ _) ?_
  refine GX.m rfl ?_
  refine GX.done ?_
  refine WK.len (t := 0) rfl (by simp) (fun hlen_2 => ?_)
  rw [List.length_map] at hlen_2
  generalize hZ_2 : F50_slices_Equal_l1 s21 0 s10 = Z_2 at hR
  refine WK.forK (fun k s => ∃ (i13 : Nat), i13 ≤ s10.length ∧ k = s10.length - i13 ∧ F50_slices_Equal_l1 s21 i13 (s10.drop i13) = Z_2 ∧ s = ⟨[(0, .ro 4 (s10.map TExt.c)), (1, .ro 4 (s21.map TExt.c)), (12, .int .i64 (s10.length : Int)), (13, .int .i64 (i13 : Int))], [], 0⟩) s10.length ⟨⟨[(0, .ro 4 (s10.map TExt.c)), (1, .ro 4 (s21.map TExt.c)), (12, .int .i64 (s10.length : Int)), (13, .int .i64 (0 : Int))], [], 0⟩, Conv.keep [] [] [0, 1, 12, 13] rfl rfl (viewE_cons rfl rfl (viewE_cons rfl rfl (viewE_cons rfl rfl (viewE_cons rfl rfl viewE_nil)))) rfl rfl, 0, (by omega), rfl, hZ_2, rfl⟩ ?_
  rintro _ _ ⟨i13, hi_2, rfl, hL_2, rfl⟩ again_2 out_2 Q_2 hagain_2 hout_2 hQ_2
  refine WK.sr mixed ?_
  refine GX.q (.bool (decide ((i13 : Int) < (s10.length : Int)))) ?_
  refine GX.done ?_
  refine WK.seq ?_
  rcases bool_two (decide ((i13 : Int) < (s10.length : Int))) with hb3 | hb3
  ·rw [hb3]
   rw [drop_end hb3, F50_slices_Equal_l1] at hL_2
   refine WK.condF rfl ?_
   refine WK.exit ?_
   refine QF.exit (hout_2 _ ?_)
   subst hL_2
   try dsimp only [cond_true, cond_false] at hR
   refine WK.sr mixed ?_
   refine GX.m rfl ?_
   refine GX.done ?_
   refine WK.ret ?_
   subst hR
   exact RetQ.fr [] (.inr rfl) rfl rfl rfl rfl
  ·rw [hb3]
   obtain ⟨x13, hx2, hd2, hlt2⟩ := drop_more hb3
   rw [hd2, F50_slices_Equal_l1] at hL_2
   refine WK.condT rfl ?_
   refine WK.skip ?_
   refine WK.seq ?_
   refine WK.blockK (fun _ hK4 => ?_)
   refine WK.sr mixed ?_
   refine GX.m rfl ?_
   refine GX.m rfl ?_
   refine GX.done ?_
   refine WK.seq ?_
   refine WK.drawn mixed ?_
   refine RD.m rfl ?_
   refine RD.m rfl ?_
   refine RD.idxT (c := TExt.c) (x := x13) rfl rfl rfl (Int.natCast_nonneg _) hx2 ?_
   refine RD.q (.agg (TExt.c x13)) ?_
   refine RD.m rfl ?_
   refine RD.m rfl ?_
   refine RD.idxT (c := TExt.c) (x := (s21.getD i13 default)) rfl rfl rfl (Int.natCast_nonneg _) (getD_at (by ((try simp only [decide_eq_true_eq, decide_eq_false_iff_not, Bool.not_eq_true, Bool.not_eq_false] at *); first | omega | (rw [wrap64_of (by omega) (by omega)]; omega) | (unfold min_ max_; (repeat' split) <;> first | omega | (rw [wrap64_of (by omega) (by omega)]; omega))))) ?_
   refine RD.q (.agg [.int .u32 (((s21.getD i13 default).P).A), .int .i64 (((s21.getD i13 default).P).N), .int .u32 ((s21.getD i13 default).Tag), .bool ((s21.getD i13 default).Marked)]) ?_
   refine RD.q (.bool (!(decide (x13.P.A = ((s21.getD i13 default).P).A) && (decide (x13.P.N = ((s21.getD i13 default).P).N) && (decide (x13.Tag = (s21.getD i13 default).Tag) && ((x13.Marked == ((s21.getD i13 default).Marked)) && true)))))) ?_
   refine RD.done rfl ?_
   rcases bool_two (decide (x13.P.A = ((s21.getD i13 default).P).A) && (decide (x13.P.N = ((s21.getD i13 default).P).N) && (decide (x13.Tag = (s21.getD i13 default).Tag) && ((x13.Marked == ((s21.getD i13 default).Marked)) && true)))) with hb5 | hb5
   ·rw [hb5]; try simp only [hb5, cond_true, cond_false, Bool.true_and, Bool.false_and, Bool.true_or, Bool.false_or, Bool.not_true, Bool.not_false] at hL_2
    refine WK.condT rfl ?_
    refine WK.sr mixed ?_
    refine GX.m rfl ?_
    refine GX.done ?_
    refine WK.ret ?_
    refine QF.ret ?_
    refine QF.ret (hQ_2 _ _ ?_)
    subst hL_2
    subst hR
    exact RetQ.fr [] (.inr rfl) rfl rfl rfl rfl
   ·rw [hb5]; try simp only [hb5, cond_true, cond_false, Bool.true_and, Bool.false_and, Bool.true_or, Bool.false_or, Bool.not_true, Bool.not_false] at hL_2
    refine WK.condF rfl ?_
    refine WK.skip ?_
    refine WK.nil (QF.normal (hK4 _ ?_))
    refine WK.regx mixed ?_
    refine GX.pure (v' := .int .i64 ((i13 + 1 : Nat) : Int)) rfl rfl rfl rfl (congrArg (PVal.int .i64) (wrap_up hlt2 hlen_2)) ?_
    refine GX.m rfl ?_
    refine GX.done ?_
    refine WK.nil (QF.normal ?_)
    exact hagain_2 _ (s10.length - (i13 + 1)) ⟨[(0, .ro 4 (s10.map TExt.c)), (1, .ro 4 (s21.map TExt.c)), (12, .int .i64 (s10.length : Int)), (13, .int .i64 ((i13 + 1) : Int))], [], 0⟩ (by omega) (Conv.keep [] [] [0, 1, 12, 13] rfl rfl (viewE_cons rfl rfl (viewE_cons rfl rfl (viewE_cons rfl rfl (viewE_cons rfl rfl viewE_nil)))) rfl rfl) ⟨i13 + 1, (by omega), rfl, hL_2, rfl⟩

theorem f48_ok (x0 : TDomain) (y1 : TDomain) (R : Bool) (hR : F48_redist_Same_1 x0 y1 = R) : FnOk Try.prog 48 [.agg (TDomain.c x0), .agg (TDomain.c y1)] [] 0 (.bool R) [] 0 := by
 refine FnOk.wk i48 rfl rfl ?_
 unfold F48_redist_Same_1 at hR
 change WK _ _ _ [ac48] _ ⟨[(0, .agg (TDomain.c x0)), (1, .agg (TDomain.c y1))], [], 0⟩
 unfold ac48
 refine WK.sr mixed ?_
 refine GX.step (v' := .ptr 0 0) (heap' := [(0, .box (TDomain.c x0))]) (next' := 1) rfl rfl rfl rfl rfl rfl rfl ?_
 refine GX.step (v' := .ptr 1 0) (heap' := [(0, .box (TDomain.c x0)), (1, .box (TDomain.c y1))]) (next' := 2) rfl rfl rfl rfl rfl rfl rfl ?_
 refine GX.m rfl ?_
 refine GX.done ?_
 refine WK.sr mixed ?_
 refine GX.q (.ptr 0 0) ?_
 refine GX.q (.int .u32 x0.Tag) ?_
 refine GX.q (.ptr 1 0) ?_
 refine GX.q (.int .u32 y1.Tag) ?_
 refine GX.q (.bool (decide (x0.Tag = y1.Tag))) ?_
 refine GX.m rfl ?_
 rcases bool_two (decide (x0.Tag = y1.Tag)) with hb1 | hb1
 ·rw [hb1]; try simp only [hb1, cond_true, cond_false, Bool.true_and, Bool.false_and, Bool.true_or, Bool.false_or, Bool.not_true, Bool.not_false] at hR
  refine GX.skip rfl rfl ?_
  refine GX.skip rfl rfl ?_
  refine GX.skip rfl rfl ?_
  refine GX.skip rfl rfl ?_
  refine GX.skip rfl rfl ?_
  refine GX.q (.bool false) ?_
  refine GX.m rfl ?_
  refine GX.skip rfl rfl ?_
  refine GX.skip rfl rfl ?_
  refine GX.skip rfl rfl ?_
  refine GX.skip rfl rfl ?_
  refine GX.skip rfl rfl ?_
  refine GX.q (.bool false) ?_
  refine GX.m rfl ?_
  refine GX.done ?_
  refine WK.ret ?_
  subst hR
  exact RetQ.fr [] (.inr rfl) rfl rfl rfl rfl
 ·rw [hb1]; try simp only [hb1, cond_true, cond_false, Bool.true_and, Bool.false_and, Bool.true_or, Bool.false_or, Bool.not_true, Bool.not_false] at hR
  refine GX.q (.ptr 0 1) ?_
  refine GX.q (.ro 2 (x0.In.map TPrefix.c)) ?_
  refine GX.q (.ptr 1 1) ?_
  refine GX.q (.ro 2 (y1.In.map TPrefix.c)) ?_
  generalize hc15 : F49_slices_Equal x0.In y1.In = c15 at hR
  try dsimp only at hR
  refine GX.callp (r := .bool c15) rfl rfl rfl (f49_ok x0.In y1.In _ hc15) rfl rfl ?_
  refine GX.q (.bool c15) ?_
  refine GX.m rfl ?_
  rcases bool_two (c15) with hb2 | hb2
  ·rw [hb2]; try simp only [hb2, cond_true, cond_false, Bool.true_and, Bool.false_and, Bool.true_or, Bool.false_or, Bool.not_true, Bool.not_false] at hR
   refine GX.skip rfl rfl ?_
   refine GX.skip rfl rfl ?_
   refine GX.skip rfl rfl ?_
   refine GX.skip rfl rfl ?_
   refine GX.skip rfl rfl ?_
   refine GX.q (.bool false) ?_
   refine GX.m rfl ?_
   refine GX.done ?_
   refine WK.ret ?_
   subst hR
   exact RetQ.fr [] (.inr rfl) rfl rfl rfl rfl
  ·rw [hb2]; try simp only [hb2, cond_true, cond_false, Bool.true_and, Bool.false_and, Bool.true_or, Bool.false_or, Bool.not_true, Bool.not_false] at hR
   refine GX.q (.ptr 0 2) ?_
   refine GX.q (.ro 4 (x0.Ext.map TExt.c)) ?_
   refine GX.q (.ptr 1 2) ?_
   refine GX.q (.ro 4 (y1.Ext.map TExt.c)) ?_
   generalize hc22 : F50_slices_Equal x0.Ext y1.Ext = c22 at hR
   try dsimp only at hR
   refine GX.callp (r := .bool c22) rfl rfl rfl (f50_ok x0.Ext y1.Ext _ hc22) rfl rfl ?_
   refine GX.q (.bool c22) ?_
   refine GX.m rfl ?_
   refine GX.done ?_
   refine WK.ret ?_
   subst hR
   exact RetQ.fr [] (.inr rfl) rfl rfl rfl rfl

theorem f26_ok (a0 : TWorld) (b1 : TWorld) (R : Bool) (hR : F26_redist_Same a0 b1 = R) : FnOk Try.prog 26 [.agg (TWorld.c a0), .agg (TWorld.c b1)] [] 0 (.bool R) [] 0 := by
 refine FnOk.wk i26 rfl rfl ?_
 unfold F26_redist_Same at hR
 change WK _ _ _ [ac26] _ ⟨[(0, .agg (TWorld.c a0)), (1, .agg (TWorld.c b1))], [], 0⟩
 unfold ac26
 refine WK.sr mixed ?_
 refine GX.step (v' := .ptr 0 0) (heap' := [(0, .box (TWorld.c a0))]) (next' := 1) rfl rfl rfl rfl rfl rfl rfl ?_
 refine GX.step (v' := .ptr 1 0) (heap' := [(0, .box (TWorld.c a0)), (1, .box (TWorld.c b1))]) (next' := 2) rfl rfl rfl rfl rfl rfl rfl ?_
 refine GX.m rfl ?_
 refine GX.done ?_
 refine WK.sr mixed ?_
 refine GX.q (.ptr 0 0) ?_
 refine GX.q (.ro 3 (a0.D.map TDomain.c)) ?_
 refine GX.q (.ptr 1 0) ?_
 refine GX.q (.ro 3 (b1.D.map TDomain.c)) ?_
 generalize hc9 : F47_slices_EqualFunc a0.D b1.D (fun y0 y1 => F48_redist_Same_1 y0 y1) = c9 at hR
 try dsimp only at hR
 refine GX.callp (r := .bool c9) rfl rfl rfl (f47_ok a0.D b1.D 48 [] [] (fun y0 y1 => F48_redist_Same_1 y0 y1) ⟨rfl, rfl⟩ (fun y0 y1 _ hr => f48_ok y0 y1 _ hr) _ hc9) rfl rfl ?_
 refine GX.m rfl ?_
 refine GX.done ?_
 refine WK.ret ?_
 subst hR
 exact RetQ.fr [] (.inr rfl) rfl rfl rfl rfl

theorem f4_ok (tags0 : List Int) (script1 : List TAct) (R : Bool) (hR : F4_crossroadslaw28_RedistPlays tags0 script1 = R) : FnOk Try.prog 4 [.ro 1 (tags0.map c_u32), .ro 6 (script1.map TAct.c)] [] 0 (.bool R) [] 0 := by
 refine FnOk.wk i4 rfl rfl ?_
 unfold F4_crossroadslaw28_RedistPlays at hR
 change WK _ _ _ [ac4] _ ⟨[(0, .ro 1 (tags0.map c_u32)), (1, .ro 6 (script1.map TAct.c))], [], 0⟩
 unfold ac4
 refine WK.sr mixed ?_
 refine GX.m rfl ?_
 refine GX.done ?_
 refine WK.seq ?_
 refine WK.sr mixed ?_
 refine GX.m rfl ?_
 refine GX.pure (v' := .int .i64 (tags0.length : Int)) rfl rfl rfl rfl (len_map _ _) ?_
 refine GX.q (.bool (decide (20 < (tags0.length : Int)))) ?_
 refine GX.done ?_
 rcases bool_two (decide (20 < (tags0.length : Int))) with hb1 | hb1
 ·rw [hb1]; try simp only [hb1, cond_true, cond_false, Bool.true_and, Bool.false_and, Bool.true_or, Bool.false_or, Bool.not_true, Bool.not_false] at hR
  refine WK.condF rfl ?_
  refine WK.skip ?_
  refine WK.sr mixed ?_
  refine GX.m rfl ?_
  generalize hc42 : F10_redist_New tags0 = c42 at hR
  have hpo0_c42 := post_i10 tags0; rw [hc42] at hpo0_c42
  obtain ⟨c42a, c42b⟩ := c42; try dsimp only at hR; try dsimp only at hpo0_c42
  refine GX.callp (r := .tup [.agg [.ro 3 (c42a.D.map TDomain.c)], .int .i64 c42b]) rfl rfl rfl (f10_ok tags0 (by ((try simp only [List.length_append, List.length_cons, List.length_nil, List.length_map, decide_eq_true_eq, decide_eq_false_iff_not] at *) <;> omega)) _ hc42) rfl rfl ?_
  refine GX.m rfl ?_
  refine GX.q (.agg [.ro 3 (c42a.D.map TDomain.c)]) ?_
  refine GX.q (.int .i64 c42b) ?_
  refine GX.step (v' := .ptr 0 0) (heap' := [(0, .box [.nils])]) (next' := 1) rfl rfl rfl rfl rfl rfl rfl ?_
  refine GX.step0 (heap' := [(0, .box (TWorld.c c42a))]) (next' := 1) rfl rfl rfl rfl rfl ?_
  refine GX.m rfl ?_
  refine GX.done ?_
  refine WK.sr mixed ?_
  refine GX.m rfl ?_
  generalize hc47 : F11_crossroadsref28_New tags0 = c47 at hR
  have hpo0_c47 := post_i11 tags0; rw [hc47] at hpo0_c47
  obtain ⟨c47a, c47b⟩ := c47; try dsimp only at hR; try dsimp only at hpo0_c47
  refine GX.callp (r := .tup [.agg [.ro 3 (c47a.D.map TDomain.c)], .int .i64 c47b]) rfl rfl rfl (f11_ok tags0 (by ((try simp only [List.length_append, List.length_cons, List.length_nil, List.length_map, decide_eq_true_eq, decide_eq_false_iff_not] at *) <;> omega)) _ hc47) rfl rfl ?_
  refine GX.m rfl ?_
  refine GX.q (.agg [.ro 3 (c47a.D.map TDomain.c)]) ?_
  refine GX.q (.int .i64 c47b) ?_
  refine GX.step (v' := .ptr 1 0) (heap' := [(0, .box (TWorld.c c42a)), (1, .box [.nils])]) (next' := 2) rfl rfl rfl rfl rfl rfl rfl ?_
  refine GX.step0 (heap' := [(0, .box (TWorld.c c42a)), (1, .box (TWorld.c c47a))]) (next' := 2) rfl rfl rfl rfl rfl ?_
  refine GX.m rfl ?_
  refine GX.done ?_
  refine WK.seq ?_
  refine WK.seq ?_
  refine WK.drawn mixed ?_
  refine RD.m rfl ?_
  refine RD.m rfl ?_
  refine RD.q (.bool (!decide (c42b = c47b))) ?_
  refine RD.m rfl ?_
  rcases bool_two (decide (c42b = c47b)) with hb2 | hb2
  ·rw [hb2]; try simp only [hb2, cond_true, cond_false, Bool.true_and, Bool.false_and, Bool.true_or, Bool.false_or, Bool.not_true, Bool.not_false] at hR
   refine RD.skip rfl rfl ?_
   refine RD.skip rfl rfl ?_
   refine RD.skip rfl rfl ?_
   refine RD.skip rfl rfl ?_
   refine RD.skip rfl rfl ?_
   refine RD.q (.bool true) ?_
   refine RD.done rfl ?_
   refine WK.condT rfl ?_
   refine WK.sr mixed ?_
   refine GX.m rfl ?_
   refine GX.done ?_
   refine WK.ret ?_
   subst hR
   exact RetQ.fr [] (.inr rfl) rfl rfl rfl rfl
  ·rw [hb2]; try simp only [hb2, cond_true, cond_false, Bool.true_and, Bool.false_and, Bool.true_or, Bool.false_or, Bool.not_true, Bool.not_false] at hR
   refine RD.q (.agg (TWorld.c c42a)) ?_
   generalize hc55 : F13_crossroadslaw28_plain c42a = c55 at hR
   have hpo0_c55 := post_i13 c42a (by omega); rw [hc55] at hpo0_c55
   try dsimp only at hR
   refine RD.callp (r := .agg [.ro 3 (c55.D.map TDomain.c)]) rfl rfl rfl (f13_ok c42a (by omega) _ hc55) rfl rfl ?_
   refine RD.q (.agg (TWorld.c c47a)) ?_
   generalize hc57 : F12_crossroadsref28_Same c55 c47a = c57 at hR
   try dsimp only at hR
   refine RD.callp (r := .bool c57) rfl rfl rfl (f12_ok c55 c47a _ hc57) rfl rfl ?_
   refine RD.q (.bool (!c57)) ?_
   refine RD.q (.bool (!c57)) ?_
   refine RD.done rfl ?_
   rcases bool_two (c57) with hb3 | hb3
   ·rw [hb3]; try simp only [hb3, cond_true, cond_false, Bool.true_and, Bool.false_and, Bool.true_or, Bool.false_or, Bool.not_true, Bool.not_false] at hR
    refine WK.condT rfl ?_
    refine WK.sr mixed ?_
    refine GX.m rfl ?_
    refine GX.done ?_
    refine WK.ret ?_
    subst hR
    exact RetQ.fr [] (.inr rfl) rfl rfl rfl rfl
   ·rw [hb3]; try simp only [hb3, cond_true, cond_false, Bool.true_and, Bool.false_and, Bool.true_or, Bool.false_or, Bool.not_true, Bool.not_false] at hR
    refine WK.condF rfl ?_
    refine WK.skip ?_
    refine WK.sr mixed ?_
    refine GX.step (v' := .own 2 6 0 (([] : List TAct)).length) (heap' := [(0, .box (TWorld.c c42a)), (1, .box (TWorld.c c47a)), (2, .row 6 31 (([] : List TAct).map TAct.c))]) (next' := 3) rfl rfl rfl rfl rfl rfl rfl ?_
    refine GX.m rfl ?_
    refine GX.done ?_
    refine WK.sr mixed ?_
    refine GX.step (v' := .own 3 6 0 (([] : List TAct)).length) (heap' := [(0, .box (TWorld.c c42a)), (1, .box (TWorld.c c47a)), (2, .row 6 31 (([] : List TAct).map TAct.c)), (3, .row 6 58 (([] : List TAct).map TAct.c))]) (next' := 4) rfl rfl rfl rfl rfl rfl rfl ?_
    refine GX.m rfl ?_
    refine GX.done ?_
    refine WK.seq ?_
    refine WK.drawn mixed ?_
    refine RD.q (.agg (TWorld.c c42a)) ?_
    refine RD.q (.agg (TWorld.c c47a)) ?_
    refine RD.step (v' := .ptr 4 0) (heap' := [(0, .box (TWorld.c c42a)), (1, .box (TWorld.c c47a)), (2, .row 6 31 (([] : List TAct).map TAct.c)), (3, .row 6 58 (([] : List TAct).map TAct.c)), (4, .box [.nils])]) (next' := 5) rfl rfl rfl rfl rfl rfl rfl ?_
    refine RD.step (v' := .ptr 5 0) (heap' := [(0, .box (TWorld.c c42a)), (1, .box (TWorld.c c47a)), (2, .row 6 31 (([] : List TAct).map TAct.c)), (3, .row 6 58 (([] : List TAct).map TAct.c)), (4, .box [.nils]), (5, .box [.nils])]) (next' := 6) rfl rfl rfl rfl rfl rfl rfl ?_
    refine RD.step0 (heap' := [(0, .box (TWorld.c c42a)), (1, .box (TWorld.c c47a)), (2, .row 6 31 (([] : List TAct).map TAct.c)), (3, .row 6 58 (([] : List TAct).map TAct.c)), (4, .box (TWorld.c c42a)), (5, .box [.nils])]) (next' := 6) rfl rfl rfl rfl rfl ?_
    refine RD.step0 (heap' := [(0, .box (TWorld.c c42a)), (1, .box (TWorld.c c47a)), (2, .row 6 31 (([] : List TAct).map TAct.c)), (3, .row 6 58 (([] : List TAct).map TAct.c)), (4, .box (TWorld.c c42a)), (5, .box (TWorld.c c47a))]) (next' := 6) rfl rfl rfl rfl rfl ?_
    refine RD.done rfl ?_
    refine WK.seq ?_
    refine WK.sr mixed ?_
    refine GX.m rfl ?_
    refine GX.done ?_
    refine WK.len (t := 1) rfl (by simp) (fun hlen_44 => ?_)
    rw [List.length_map] at hlen_44
    generalize hZ_44 : F4_crossroadslaw28_RedistPlays_l1 c42a c47a ([] : List TAct) ([] : List TAct) 0 script1 = Z_44 at hR
    refine WK.forK (fun k s => ∃ (i13 : Nat) (w5 : TWorld) (m7 : TWorld) (acts9 : List TAct) (model10 : List TAct), i13 ≤ script1.length ∧ k = script1.length - i13 ∧ acts9.length ≤ i13 + 0 ∧ model10.length ≤ i13 + 0 ∧ InvW w5 ∧ InvW m7 ∧ F4_crossroadslaw28_RedistPlays_l1 w5 m7 acts9 model10 i13 (script1.drop i13) = Z_44 ∧ s = ⟨[(1, .ro 6 (script1.map TAct.c)), (5, .ptr 0 0), (7, .ptr 1 0), (9, .own 2 6 0 acts9.length), (10, .own 3 6 0 model10.length), (11, .ptr 4 0), (12, .ptr 5 0), (13, .int .i64 (i13 : Int))], [(0, .box (TWorld.c w5)), (1, .box (TWorld.c m7)), (2, .row 6 31 (acts9.map TAct.c)), (3, .row 6 58 (model10.map TAct.c)), (4, .box (TWorld.c c42a)), (5, .box (TWorld.c c47a))], 6⟩) script1.length ⟨⟨[(1, .ro 6 (script1.map TAct.c)), (5, .ptr 0 0), (7, .ptr 1 0), (9, .own 2 6 0 ([] : List TAct).length), (10, .own 3 6 0 ([] : List TAct).length), (11, .ptr 4 0), (12, .ptr 5 0), (13, .int .i64 (0 : Int))], [(0, .box (TWorld.c c42a)), (1, .box (TWorld.c c47a)), (2, .row 6 31 (([] : List TAct).map TAct.c)), (3, .row 6 58 (([] : List TAct).map TAct.c)), (4, .box (TWorld.c c42a)), (5, .box (TWorld.c c47a))], 6⟩, Conv.keep [0, 1, 2, 3, 4, 5] [] [1, 5, 7, 9, 10, 11, 12, 13] rfl rfl (viewE_cons rfl rfl (viewE_cons rfl rfl (viewE_cons rfl rfl (viewE_cons rfl rfl (viewE_cons rfl rfl (viewE_cons rfl rfl (viewE_cons rfl rfl (viewE_cons rfl rfl viewE_nil)))))))) rfl rfl, 0, c42a, c47a, ([] : List TAct), ([] : List TAct), (by omega), rfl, (by ((try simp only [List.length_append, List.length_cons, List.length_nil, decide_eq_true_eq] at *) <;> first | omega | (rw [wrap64_of (by omega) (by omega)]; omega))), (by ((try simp only [List.length_append, List.length_cons, List.length_nil, decide_eq_true_eq] at *) <;> first | omega | (rw [wrap64_of (by omega) (by omega)]; omega))), (by omega), (by omega), hZ_44, rfl⟩ ?_
    rintro _ _ ⟨i13, w5, m7, acts9, model10, hi_44, rfl, hinv44_acts9, hinv44_model10, hinv44_c2, hinv44_c3, hL_44, rfl⟩ again_44 out_44 Q_44 hagain_44 hout_44 hQ_44
    refine WK.seq ?_
    refine WK.sr mixed ?_
    refine GX.m rfl ?_
    refine GX.m rfl ?_
    refine GX.pure (v' := .int .i64 (script1.length : Int)) rfl rfl rfl rfl (len_map _ _) ?_
    refine GX.q (.bool (decide ((i13 : Int) < (script1.length : Int)))) ?_
    refine GX.m rfl ?_
    rcases bool_two (decide ((i13 : Int) < (script1.length : Int))) with hb45 | hb45
    ·rw [hb45]
     rw [drop_end hb45, F4_crossroadslaw28_RedistPlays_l1] at hL_44
     refine GX.skip rfl rfl ?_
     refine GX.skip rfl rfl ?_
     refine GX.q (.bool false) ?_
     refine GX.done ?_
     refine WK.condF rfl ?_
     refine WK.exit ?_
     refine QF.exit (hout_44 _ ?_)
     subst hL_44
     try dsimp only [cond_true, cond_false] at hR
     refine WK.seq ?_
     refine WK.conv (st' := ⟨[(5, .ptr 0 0), (7, .ptr 1 0), (9, .ro 6 (acts9.map TAct.c)), (10, .own 2 6 0 model10.length), (11, .ptr 3 0), (12, .ptr 4 0)], [(0, .box (TWorld.c w5)), (1, .box (TWorld.c m7)), (2, .row 6 58 (model10.map TAct.c)), (3, .box (TWorld.c c42a)), (4, .box (TWorld.c c47a))], 5⟩) (Conv.keep [0, 1, 3, 4, 5] [2] [5, 7, 9, 10, 11, 12] rfl rfl (viewE_cons rfl rfl (viewE_cons rfl rfl (viewE_cons rfl (view_rowT rfl rfl) (viewE_cons rfl rfl (viewE_cons rfl rfl (viewE_cons rfl rfl viewE_nil)))))) rfl rfl) ?_ (by simp)
     refine WK.conv (st' := ⟨[(5, .ptr 0 0), (7, .ptr 1 0), (9, .ro 6 (acts9.map TAct.c)), (10, .ro 6 (model10.map TAct.c)), (11, .ptr 2 0), (12, .ptr 3 0)], [(0, .box (TWorld.c w5)), (1, .box (TWorld.c m7)), (2, .box (TWorld.c c42a)), (3, .box (TWorld.c c47a))], 4⟩) (Conv.keep [0, 1, 3, 4] [2] [5, 7, 9, 10, 11, 12] rfl rfl (viewE_cons rfl rfl (viewE_cons rfl rfl (viewE_cons rfl rfl (viewE_cons rfl (view_rowT rfl rfl) (viewE_cons rfl rfl (viewE_cons rfl rfl viewE_nil)))))) rfl rfl) ?_ (by simp)
     refine WK.drawn mixed ?_
     generalize hc231 : F8_crossroadslaw28_alive = c231 at hR
     try dsimp only at hR
     refine RD.callp (r := .bool c231) rfl rfl rfl (f8_ok  _ hc231) rfl rfl ?_
     refine RD.m rfl ?_
     rcases bool_two (c231) with hb48 | hb48
     ·rw [hb48]; try simp only [hb48, cond_true, cond_false, Bool.true_and, Bool.false_and, Bool.true_or, Bool.false_or, Bool.not_true, Bool.not_false] at hR
      refine RD.skip rfl rfl ?_
      refine RD.skip rfl rfl ?_
      refine RD.skip rfl rfl ?_
      refine RD.skip rfl rfl ?_
      refine RD.skip rfl rfl ?_
      refine RD.skip rfl rfl ?_
      refine RD.skip rfl rfl ?_
      refine RD.skip rfl rfl ?_
      refine RD.q (.bool false) ?_
      refine RD.m rfl ?_
      refine RD.skip rfl rfl ?_
      refine RD.skip rfl rfl ?_
      refine RD.skip rfl rfl ?_
      refine RD.skip rfl rfl ?_
      refine RD.skip rfl rfl ?_
      refine RD.skip rfl rfl ?_
      refine RD.skip rfl rfl ?_
      refine RD.q (.bool false) ?_
      refine RD.m rfl ?_
      refine RD.done rfl ?_
      refine WK.ret ?_
      subst hR
      exact RetQ.fr [] (.inr rfl) rfl rfl rfl rfl
     ·rw [hb48]; try simp only [hb48, cond_true, cond_false, Bool.true_and, Bool.false_and, Bool.true_or, Bool.false_or, Bool.not_true, Bool.not_false] at hR
      refine RD.q (.agg (TWorld.c c42a)) ?_
      refine RD.m rfl ?_
      generalize hc235 : F24_redist_Run c42a acts9 = c235 at hR
      have hpo0_c235 := post_i24 c42a acts9 (by omega); rw [hc235] at hpo0_c235
      try dsimp only at hR
      refine RD.callp (r := .agg [.ro 3 (c235.D.map TDomain.c)]) rfl rfl rfl (f24_ok c42a acts9 (by omega) _ hc235) rfl rfl ?_
      generalize hc236 : F13_crossroadslaw28_plain c235 = c236 at hR
      have hpo0_c236 := post_i13 c235 (by omega); rw [hc236] at hpo0_c236
      try dsimp only at hR
      refine RD.callp (r := .agg [.ro 3 (c236.D.map TDomain.c)]) rfl rfl rfl (f13_ok c235 (by omega) _ hc236) rfl rfl ?_
      refine RD.q (.agg (TWorld.c c47a)) ?_
      refine RD.m rfl ?_
      generalize hc239 : F25_crossroadsref28_Run c47a model10 = c239 at hR
      have hpo0_c239 := post_i25 c47a model10 (by omega); rw [hc239] at hpo0_c239
      try dsimp only at hR
      refine RD.callp (r := .agg [.ro 3 (c239.D.map TDomain.c)]) rfl rfl rfl (f25_ok c47a model10 (by omega) _ hc239) rfl rfl ?_
      generalize hc240 : F12_crossroadsref28_Same c236 c239 = c240 at hR
      try dsimp only at hR
      refine RD.callp (r := .bool c240) rfl rfl rfl (f12_ok c236 c239 _ hc240) rfl rfl ?_
      refine RD.q (.bool c240) ?_
      refine RD.m rfl ?_
      rcases bool_two (c240) with hb49 | hb49
      ·rw [hb49]; try simp only [hb49, cond_true, cond_false, Bool.true_and, Bool.false_and, Bool.true_or, Bool.false_or, Bool.not_true, Bool.not_false] at hR
       refine RD.skip rfl rfl ?_
       refine RD.skip rfl rfl ?_
       refine RD.skip rfl rfl ?_
       refine RD.skip rfl rfl ?_
       refine RD.skip rfl rfl ?_
       refine RD.skip rfl rfl ?_
       refine RD.skip rfl rfl ?_
       refine RD.q (.bool false) ?_
       refine RD.m rfl ?_
       refine RD.done rfl ?_
       refine WK.ret ?_
       subst hR
       exact RetQ.fr [] (.inr rfl) rfl rfl rfl rfl
      ·rw [hb49]; try simp only [hb49, cond_true, cond_false, Bool.true_and, Bool.false_and, Bool.true_or, Bool.false_or, Bool.not_true, Bool.not_false] at hR
       refine RD.q (.agg (TWorld.c w5)) ?_
       refine RD.q (.agg (TWorld.c c42a)) ?_
       generalize hc245 : F26_redist_Same w5 c42a = c245 at hR
       try dsimp only at hR
       refine RD.callp (r := .bool c245) rfl rfl rfl (f26_ok w5 c42a _ hc245) rfl rfl ?_
       refine RD.q (.agg (TWorld.c m7)) ?_
       refine RD.q (.agg (TWorld.c c47a)) ?_
       generalize hc248 : F12_crossroadsref28_Same m7 c47a = c248 at hR
       try dsimp only at hR
       refine RD.callp (r := .bool c248) rfl rfl rfl (f12_ok m7 c47a _ hc248) rfl rfl ?_
       refine RD.q (.bool (c245 == c248)) ?_
       refine RD.q (.bool (c245 == c248)) ?_
       refine RD.m rfl ?_
       refine RD.done rfl ?_
       refine WK.ret ?_
       subst hR
       exact RetQ.fr [] (.inr rfl) rfl rfl rfl rfl
    ·rw [hb45]
     obtain ⟨x13, hx44, hd44, hlt44⟩ := drop_more hb45
     rw [hd44, F4_crossroadslaw28_RedistPlays_l1] at hL_44
     refine GX.m rfl ?_
     refine GX.q (.bool (decide ((i13 : Int) < 100))) ?_
     refine GX.q (.bool (decide ((i13 : Int) < 100))) ?_
     refine GX.done ?_
     rcases bool_two (decide ((i13 : Int) < 100)) with hb50 | hb50
     ·rw [hb50]; try simp only [hb50, cond_true, cond_false, Bool.true_and, Bool.false_and, Bool.true_or, Bool.false_or, Bool.not_true, Bool.not_false] at hL_44
      refine WK.condF rfl ?_
      refine WK.exit ?_
      refine QF.exit (hout_44 _ ?_)
      subst hL_44
      try dsimp only [cond_true, cond_false] at hR
      refine WK.seq ?_
      refine WK.conv (st' := ⟨[(5, .ptr 0 0), (7, .ptr 1 0), (9, .ro 6 (acts9.map TAct.c)), (10, .own 2 6 0 model10.length), (11, .ptr 3 0), (12, .ptr 4 0)], [(0, .box (TWorld.c w5)), (1, .box (TWorld.c m7)), (2, .row 6 58 (model10.map TAct.c)), (3, .box (TWorld.c c42a)), (4, .box (TWorld.c c47a))], 5⟩) (Conv.keep [0, 1, 3, 4, 5] [2] [5, 7, 9, 10, 11, 12] rfl rfl (viewE_cons rfl rfl (viewE_cons rfl rfl (viewE_cons rfl (view_rowT rfl rfl) (viewE_cons rfl rfl (viewE_cons rfl rfl (viewE_cons rfl rfl viewE_nil)))))) rfl rfl) ?_ (by simp)
      refine WK.conv (st' := ⟨[(5, .ptr 0 0), (7, .ptr 1 0), (9, .ro 6 (acts9.map TAct.c)), (10, .ro 6 (model10.map TAct.c)), (11, .ptr 2 0), (12, .ptr 3 0)], [(0, .box (TWorld.c w5)), (1, .box (TWorld.c m7)), (2, .box (TWorld.c c42a)), (3, .box (TWorld.c c47a))], 4⟩) (Conv.keep [0, 1, 3, 4] [2] [5, 7, 9, 10, 11, 12] rfl rfl (viewE_cons rfl rfl (viewE_cons rfl rfl (viewE_cons rfl rfl (viewE_cons rfl (view_rowT rfl rfl) (viewE_cons rfl rfl (viewE_cons rfl rfl viewE_nil)))))) rfl rfl) ?_ (by simp)
      refine WK.drawn mixed ?_
      generalize hc231 : F8_crossroadslaw28_alive = c231 at hR
      try dsimp only at hR
      refine RD.callp (r := .bool c231) rfl rfl rfl (f8_ok  _ hc231) rfl rfl ?_
      refine RD.m rfl ?_
      rcases bool_two (c231) with hb53 | hb53
      ·rw [hb53]; try simp only [hb53, cond_true, cond_false, Bool.true_and, Bool.false_and, Bool.true_or, Bool.false_or, Bool.not_true, Bool.not_false] at hR
       refine RD.skip rfl rfl ?_
       refine RD.skip rfl rfl ?_
       refine RD.skip rfl rfl ?_
       refine RD.skip rfl rfl ?_
       refine RD.skip rfl rfl ?_
       refine RD.skip rfl rfl ?_
       refine RD.skip rfl rfl ?_
       refine RD.skip rfl rfl ?_
       refine RD.q (.bool false) ?_
       refine RD.m rfl ?_
       refine RD.skip rfl rfl ?_
       refine RD.skip rfl rfl ?_
       refine RD.skip rfl rfl ?_
       refine RD.skip rfl rfl ?_
       refine RD.skip rfl rfl ?_
       refine RD.skip rfl rfl ?_
       refine RD.skip rfl rfl ?_
       refine RD.q (.bool false) ?_
       refine RD.m rfl ?_
       refine RD.done rfl ?_
       refine WK.ret ?_
       subst hR
       exact RetQ.fr [] (.inr rfl) rfl rfl rfl rfl
      ·rw [hb53]; try simp only [hb53, cond_true, cond_false, Bool.true_and, Bool.false_and, Bool.true_or, Bool.false_or, Bool.not_true, Bool.not_false] at hR
       refine RD.q (.agg (TWorld.c c42a)) ?_
       refine RD.m rfl ?_
       generalize hc235 : F24_redist_Run c42a acts9 = c235 at hR
       have hpo0_c235 := post_i24 c42a acts9 (by omega); rw [hc235] at hpo0_c235
       try dsimp only at hR
       refine RD.callp (r := .agg [.ro 3 (c235.D.map TDomain.c)]) rfl rfl rfl (f24_ok c42a acts9 (by omega) _ hc235) rfl rfl ?_
       generalize hc236 : F13_crossroadslaw28_plain c235 = c236 at hR
       have hpo0_c236 := post_i13 c235 (by omega); rw [hc236] at hpo0_c236
       try dsimp only at hR
       refine RD.callp (r := .agg [.ro 3 (c236.D.map TDomain.c)]) rfl rfl rfl (f13_ok c235 (by omega) _ hc236) rfl rfl ?_
       refine RD.q (.agg (TWorld.c c47a)) ?_
       refine RD.m rfl ?_
       generalize hc239 : F25_crossroadsref28_Run c47a model10 = c239 at hR
       have hpo0_c239 := post_i25 c47a model10 (by omega); rw [hc239] at hpo0_c239
       try dsimp only at hR
       refine RD.callp (r := .agg [.ro 3 (c239.D.map TDomain.c)]) rfl rfl rfl (f25_ok c47a model10 (by omega) _ hc239) rfl rfl ?_
       generalize hc240 : F12_crossroadsref28_Same c236 c239 = c240 at hR
       try dsimp only at hR
       refine RD.callp (r := .bool c240) rfl rfl rfl (f12_ok c236 c239 _ hc240) rfl rfl ?_
       refine RD.q (.bool c240) ?_
       refine RD.m rfl ?_
       rcases bool_two (c240) with hb54 | hb54
       ·rw [hb54]; try simp only [hb54, cond_true, cond_false, Bool.true_and, Bool.false_and, Bool.true_or, Bool.false_or, Bool.not_true, Bool.not_false] at hR
        refine RD.skip rfl rfl ?_
        refine RD.skip rfl rfl ?_
        refine RD.skip rfl rfl ?_
        refine RD.skip rfl rfl ?_
        refine RD.skip rfl rfl ?_
        refine RD.skip rfl rfl ?_
        refine RD.skip rfl rfl ?_
        refine RD.q (.bool false) ?_
        refine RD.m rfl ?_
        refine RD.done rfl ?_
        refine WK.ret ?_
        subst hR
        exact RetQ.fr [] (.inr rfl) rfl rfl rfl rfl
       ·rw [hb54]; try simp only [hb54, cond_true, cond_false, Bool.true_and, Bool.false_and, Bool.true_or, Bool.false_or, Bool.not_true, Bool.not_false] at hR
        refine RD.q (.agg (TWorld.c w5)) ?_
        refine RD.q (.agg (TWorld.c c42a)) ?_
        generalize hc245 : F26_redist_Same w5 c42a = c245 at hR
        try dsimp only at hR
        refine RD.callp (r := .bool c245) rfl rfl rfl (f26_ok w5 c42a _ hc245) rfl rfl ?_
        refine RD.q (.agg (TWorld.c m7)) ?_
        refine RD.q (.agg (TWorld.c c47a)) ?_
        generalize hc248 : F12_crossroadsref28_Same m7 c47a = c248 at hR
        try dsimp only at hR
        refine RD.callp (r := .bool c248) rfl rfl rfl (f12_ok m7 c47a _ hc248) rfl rfl ?_
        refine RD.q (.bool (c245 == c248)) ?_
        refine RD.q (.bool (c245 == c248)) ?_
        refine RD.m rfl ?_
        refine RD.done rfl ?_
        refine WK.ret ?_
        subst hR
        exact RetQ.fr [] (.inr rfl) rfl rfl rfl rfl
     ·rw [hb50]; try simp only [hb50, cond_true, cond_false, Bool.true_and, Bool.false_and, Bool.true_or, Bool.false_or, Bool.not_true, Bool.not_false] at hL_44
      refine WK.condT rfl ?_
      refine WK.skip ?_
      refine WK.seq ?_
      refine WK.blockK (fun _ hK55 => ?_)
      refine WK.sr mixed ?_
      refine GX.m rfl ?_
      refine GX.m rfl ?_
      refine GX.idxT (c := TAct.c) (x := x13) rfl rfl rfl (Int.natCast_nonneg _) hx44 ?_
      refine GX.q (.agg (TAct.c x13)) ?_
      refine GX.step (v' := .ptr 6 0) (heap' := [(0, .box (TWorld.c w5)), (1, .box (TWorld.c m7)), (2, .row 6 31 (acts9.map TAct.c)), (3, .row 6 58 (model10.map TAct.c)), (4, .box (TWorld.c c42a)), (5, .box (TWorld.c c47a)), (6, .box [.int .i64 0, .int .i64 0, .int .i64 0, .bool false, .int .u32 0, .int .i64 0])]) (next' := 7) rfl rfl rfl rfl rfl rfl rfl ?_
      refine GX.step0 (heap' := [(0, .box (TWorld.c w5)), (1, .box (TWorld.c m7)), (2, .row 6 31 (acts9.map TAct.c)), (3, .row 6 58 (model10.map TAct.c)), (4, .box (TWorld.c c42a)), (5, .box (TWorld.c c47a)), (6, .box (TAct.c x13))]) (next' := 7) rfl rfl rfl rfl rfl ?_
      refine GX.done ?_
      refine WK.seq ?_
      refine WK.drawn mixed ?_
      refine RD.q (.agg (TWorld.c w5)) ?_
      refine RD.q (.agg (TWorld.c m7)) ?_
      refine RD.step (v' := .ptr 7 0) (heap' := [(0, .box (TWorld.c w5)), (1, .box (TWorld.c m7)), (2, .row 6 31 (acts9.map TAct.c)), (3, .row 6 58 (model10.map TAct.c)), (4, .box (TWorld.c c42a)), (5, .box (TWorld.c c47a)), (6, .box (TAct.c x13)), (7, .box [.nils])]) (next' := 8) rfl rfl rfl rfl rfl rfl rfl ?_
      refine RD.step (v' := .ptr 8 0) (heap' := [(0, .box (TWorld.c w5)), (1, .box (TWorld.c m7)), (2, .row 6 31 (acts9.map TAct.c)), (3, .row 6 58 (model10.map TAct.c)), (4, .box (TWorld.c c42a)), (5, .box (TWorld.c c47a)), (6, .box (TAct.c x13)), (7, .box [.nils]), (8, .box [.nils])]) (next' := 9) rfl rfl rfl rfl rfl rfl rfl ?_
      refine RD.step0 (heap' := [(0, .box (TWorld.c w5)), (1, .box (TWorld.c m7)), (2, .row 6 31 (acts9.map TAct.c)), (3, .row 6 58 (model10.map TAct.c)), (4, .box (TWorld.c c42a)), (5, .box (TWorld.c c47a)), (6, .box (TAct.c x13)), (7, .box (TWorld.c w5)), (8, .box [.nils])]) (next' := 9) rfl rfl rfl rfl rfl ?_
      refine RD.step0 (heap' := [(0, .box (TWorld.c w5)), (1, .box (TWorld.c m7)), (2, .row 6 31 (acts9.map TAct.c)), (3, .row 6 58 (model10.map TAct.c)), (4, .box (TWorld.c c42a)), (5, .box (TWorld.c c47a)), (6, .box (TAct.c x13)), (7, .box (TWorld.c w5)), (8, .box (TWorld.c m7))]) (next' := 9) rfl rfl rfl rfl rfl ?_
      refine RD.done rfl ?_
      refine WK.sr mixed ?_
      refine GX.m rfl ?_
      refine GX.q (.agg (TAct.c x13)) ?_
      refine GX.step (v' := .own 9 6 0 (([x13] : List TAct)).length) (heap' := [(0, .box (TWorld.c w5)), (1, .box (TWorld.c m7)), (2, .row 6 31 (acts9.map TAct.c)), (3, .row 6 58 (model10.map TAct.c)), (4, .box (TWorld.c c42a)), (5, .box (TWorld.c c47a)), (6, .box (TAct.c x13)), (7, .box (TWorld.c w5)), (8, .box (TWorld.c m7)), (9, .row 6 31 (([x13] : List TAct).map TAct.c))]) (next' := 10) rfl rfl rfl rfl rfl rfl rfl ?_
      refine GX.appT (c := TAct.c) (L := acts9) (X := ([x13] : List TAct)) (heap' := [(0, .box (TWorld.c w5)), (1, .box (TWorld.c m7)), (3, .row 6 58 (model10.map TAct.c)), (4, .box (TWorld.c c42a)), (5, .box (TWorld.c c47a)), (6, .box (TAct.c x13)), (7, .box (TWorld.c w5)), (8, .box (TWorld.c m7)), (9, .row 6 31 (([x13] : List TAct).map TAct.c)), (10, .row 6 31 ((acts9 ++ ([x13] : List TAct)).map TAct.c))]) (next' := 11) rfl rfl rfl rfl (elems_own rfl) (by ((try simp only [List.length_append, List.length_cons, List.length_nil, List.length_map, decide_eq_true_eq, decide_eq_false_iff_not] at *) <;> omega)) (by ((try simp only [List.length_append, List.length_cons, List.length_nil, List.length_map, decide_eq_true_eq, decide_eq_false_iff_not] at *) <;> omega)) rfl rfl rfl rfl ?_
      refine GX.m rfl ?_
      refine GX.done ?_
      refine WK.seq ?_
      refine WK.drawn mixed ?_
      refine RD.m rfl ?_
      refine RD.q (.ptr 6 0) ?_
      refine RD.q (.int .i64 x13.Kind) ?_
      refine RD.q (.ptr 6 1) ?_
      refine RD.q (.agg [.int .i64 x13.B.From, .int .i64 x13.B.To, .bool x13.B.Provider]) ?_
      generalize hc89 : F14_crossroadslaw28_border x13.B = c89 at hL_44
      try dsimp only at hL_44
      refine RD.callp (r := .agg [.int .i64 c89.From, .int .i64 c89.To, .bool c89.Provider]) rfl rfl rfl (f14_ok x13.B _ hc89) rfl rfl ?_
      refine RD.q (.ptr 6 4) ?_
      refine RD.q (.agg [.int .u32 x13.P.A, .int .i64 x13.P.N]) ?_
      refine RD.q (.agg [.int .i64 x13.Kind, .int .i64 c89.From, .int .i64 c89.To, .bool c89.Provider, .int .u32 x13.P.A, .int .i64 x13.P.N]) ?_
      refine RD.step (v' := .own 11 6 0 (([(⟨x13.Kind, c89, x13.P⟩ : TAct)] : List TAct)).length) (heap' := [(0, .box (TWorld.c w5)), (1, .box (TWorld.c m7)), (3, .row 6 58 (model10.map TAct.c)), (4, .box (TWorld.c c42a)), (5, .box (TWorld.c c47a)), (6, .box (TAct.c x13)), (7, .box (TWorld.c w5)), (8, .box (TWorld.c m7)), (9, .row 6 31 (([x13] : List TAct).map TAct.c)), (10, .row 6 31 ((acts9 ++ ([x13] : List TAct)).map TAct.c)), (11, .row 6 58 (([(⟨x13.Kind, c89, x13.P⟩ : TAct)] : List TAct).map TAct.c))]) (next' := 12) rfl rfl rfl rfl rfl rfl rfl ?_
      refine RD.appT (c := TAct.c) (L := model10) (X := ([(⟨x13.Kind, c89, x13.P⟩ : TAct)] : List TAct)) (heap' := [(0, .box (TWorld.c w5)), (1, .box (TWorld.c m7)), (4, .box (TWorld.c c42a)), (5, .box (TWorld.c c47a)), (6, .box (TAct.c x13)), (7, .box (TWorld.c w5)), (8, .box (TWorld.c m7)), (9, .row 6 31 (([x13] : List TAct).map TAct.c)), (10, .row 6 31 ((acts9 ++ ([x13] : List TAct)).map TAct.c)), (11, .row 6 58 (([(⟨x13.Kind, c89, x13.P⟩ : TAct)] : List TAct).map TAct.c)), (12, .row 6 58 ((model10 ++ ([(⟨x13.Kind, c89, x13.P⟩ : TAct)] : List TAct)).map TAct.c))]) (next' := 13) rfl rfl rfl rfl (elems_own rfl) (by ((try simp only [List.length_append, List.length_cons, List.length_nil, List.length_map, decide_eq_true_eq, decide_eq_false_iff_not] at *) <;> omega)) (by ((try simp only [List.length_append, List.length_cons, List.length_nil, List.length_map, decide_eq_true_eq, decide_eq_false_iff_not] at *) <;> omega)) rfl rfl rfl rfl ?_
      refine RD.m rfl ?_
      refine RD.done rfl ?_
      refine WK.sr mixed ?_
      refine GX.m rfl ?_
      refine GX.done ?_
      refine WK.seq ?_
      refine WK.sr mixed ?_
      refine GX.q (.ptr 6 0) ?_
      refine GX.q (.int .i64 x13.Kind) ?_
      refine GX.done ?_
      refine WK.blockK (fun _ hK56 => ?_)
      refine WK.sr mixed ?_
      refine GX.q (.bool (decide (x13.Kind = 1))) ?_
      refine GX.m rfl ?_
      refine GX.done ?_
      rcases bool_two (decide (x13.Kind = 1)) with hb57 | hb57
      ·rw [hb57]; try simp only [hb57, cond_true, cond_false, Bool.true_and, Bool.false_and, Bool.true_or, Bool.false_or, Bool.not_true, Bool.not_false] at hL_44
       refine WK.condF rfl ?_
       refine WK.sr mixed ?_
       refine GX.q (.bool (decide (x13.Kind = 2))) ?_
       refine GX.m rfl ?_
       refine GX.done ?_
       rcases bool_two (decide (x13.Kind = 2)) with hb58 | hb58
       ·rw [hb58]; try simp only [hb58, cond_true, cond_false, Bool.true_and, Bool.false_and, Bool.true_or, Bool.false_or, Bool.not_true, Bool.not_false] at hL_44
        refine WK.condF rfl ?_
        refine WK.sr mixed ?_
        refine GX.q (.bool (decide (x13.Kind = 3))) ?_
        refine GX.m rfl ?_
        refine GX.done ?_
        rcases bool_two (decide (x13.Kind = 3)) with hb59 | hb59
        ·rw [hb59]; try simp only [hb59, cond_true, cond_false, Bool.true_and, Bool.false_and, Bool.true_or, Bool.false_or, Bool.not_true, Bool.not_false] at hL_44
         refine WK.condF rfl ?_
         refine WK.skip ?_
         refine WK.nil (QF.normal (hK56 _ ?_))
         refine WK.sr mixed ?_
         refine GX.q (.agg (TWorld.c w5)) ?_
         refine GX.q (.ptr 6 1) ?_
         refine GX.q (.ptr 6 2) ?_
         refine GX.q (.int .i64 x13.B.To) ?_
         refine GX.q (.ptr 6 4) ?_
         refine GX.q (.agg [.int .u32 x13.P.A, .int .i64 x13.P.N]) ?_
         generalize hc191 : F21_redist_Has w5 x13.B.To x13.P = c191 at hL_44
         obtain ⟨c191a, c191b⟩ := c191; try dsimp only at hL_44
         refine GX.callp (r := .tup [.agg [.int .u32 c191a.P.A, .int .i64 c191a.P.N, .int .u32 c191a.Tag, .bool c191a.Marked], .bool c191b]) rfl rfl rfl (f21_ok w5 x13.B.To x13.P (by omega) _ hc191) rfl rfl ?_
         refine GX.m rfl ?_
         refine GX.q (.agg [.int .u32 c191a.P.A, .int .i64 c191a.P.N, .int .u32 c191a.Tag, .bool c191a.Marked]) ?_
         refine GX.q (.bool c191b) ?_
         refine GX.step (v' := .ptr 13 0) (heap' := [(0, .box (TWorld.c w5)), (1, .box (TWorld.c m7)), (4, .box (TWorld.c c42a)), (5, .box (TWorld.c c47a)), (6, .box (TAct.c x13)), (7, .box (TWorld.c w5)), (8, .box (TWorld.c m7)), (9, .row 6 31 (([x13] : List TAct).map TAct.c)), (10, .row 6 31 ((acts9 ++ ([x13] : List TAct)).map TAct.c)), (11, .row 6 58 (([(⟨x13.Kind, c89, x13.P⟩ : TAct)] : List TAct).map TAct.c)), (12, .row 6 58 ((model10 ++ ([(⟨x13.Kind, c89, x13.P⟩ : TAct)] : List TAct)).map TAct.c)), (13, .box [.int .u32 0, .int .i64 0, .int .u32 0, .bool false])]) (next' := 14) rfl rfl rfl rfl rfl rfl rfl ?_
         refine GX.step0 (heap' := [(0, .box (TWorld.c w5)), (1, .box (TWorld.c m7)), (4, .box (TWorld.c c42a)), (5, .box (TWorld.c c47a)), (6, .box (TAct.c x13)), (7, .box (TWorld.c w5)), (8, .box (TWorld.c m7)), (9, .row 6 31 (([x13] : List TAct).map TAct.c)), (10, .row 6 31 ((acts9 ++ ([x13] : List TAct)).map TAct.c)), (11, .row 6 58 (([(⟨x13.Kind, c89, x13.P⟩ : TAct)] : List TAct).map TAct.c)), (12, .row 6 58 ((model10 ++ ([(⟨x13.Kind, c89, x13.P⟩ : TAct)] : List TAct)).map TAct.c)), (13, .box (TExt.c c191a))]) (next' := 14) rfl rfl rfl rfl rfl ?_
         refine GX.m rfl ?_
         refine GX.done ?_
         refine WK.sr mixed ?_
         refine GX.q (.agg (TWorld.c m7)) ?_
         refine GX.q (.ptr 6 1) ?_
         refine GX.q (.ptr 6 2) ?_
         refine GX.q (.int .i64 x13.B.To) ?_
         refine GX.q (.ptr 6 4) ?_
         refine GX.q (.agg [.int .u32 x13.P.A, .int .i64 x13.P.N]) ?_
         generalize hc201 : F22_crossroadsref28_Has m7 x13.B.To x13.P = c201 at hL_44
         obtain ⟨c201a, c201b⟩ := c201; try dsimp only at hL_44
         refine GX.callp (r := .tup [.agg [.int .u32 c201a.P.A, .int .i64 c201a.P.N, .int .u32 c201a.Tag, .bool c201a.Marked], .bool c201b]) rfl rfl rfl (f22_ok m7 x13.B.To x13.P _ hc201) rfl rfl ?_
         refine GX.m rfl ?_
         refine GX.q (.agg [.int .u32 c201a.P.A, .int .i64 c201a.P.N, .int .u32 c201a.Tag, .bool c201a.Marked]) ?_
         refine GX.q (.bool c201b) ?_
         refine GX.step (v' := .ptr 14 0) (heap' := [(0, .box (TWorld.c w5)), (1, .box (TWorld.c m7)), (4, .box (TWorld.c c42a)), (5, .box (TWorld.c c47a)), (6, .box (TAct.c x13)), (7, .box (TWorld.c w5)), (8, .box (TWorld.c m7)), (9, .row 6 31 (([x13] : List TAct).map TAct.c)), (10, .row 6 31 ((acts9 ++ ([x13] : List TAct)).map TAct.c)), (11, .row 6 58 (([(⟨x13.Kind, c89, x13.P⟩ : TAct)] : List TAct).map TAct.c)), (12, .row 6 58 ((model10 ++ ([(⟨x13.Kind, c89, x13.P⟩ : TAct)] : List TAct)).map TAct.c)), (13, .box (TExt.c c191a)), (14, .box [.int .u32 0, .int .i64 0, .int .u32 0, .bool false])]) (next' := 15) rfl rfl rfl rfl rfl rfl rfl ?_
         refine GX.step0 (heap' := [(0, .box (TWorld.c w5)), (1, .box (TWorld.c m7)), (4, .box (TWorld.c c42a)), (5, .box (TWorld.c c47a)), (6, .box (TAct.c x13)), (7, .box (TWorld.c w5)), (8, .box (TWorld.c m7)), (9, .row 6 31 (([x13] : List TAct).map TAct.c)), (10, .row 6 31 ((acts9 ++ ([x13] : List TAct)).map TAct.c)), (11, .row 6 58 (([(⟨x13.Kind, c89, x13.P⟩ : TAct)] : List TAct).map TAct.c)), (12, .row 6 58 ((model10 ++ ([(⟨x13.Kind, c89, x13.P⟩ : TAct)] : List TAct)).map TAct.c)), (13, .box (TExt.c c191a)), (14, .box (TExt.c c201a))]) (next' := 15) rfl rfl rfl rfl rfl ?_
         refine GX.m rfl ?_
         refine GX.done ?_
         refine WK.seq ?_
         refine WK.drawn mixed ?_
         refine RD.m rfl ?_
         refine RD.q (.bool false) ?_
         refine RD.m rfl ?_
         refine RD.q (.agg (TWorld.c w5)) ?_
         generalize hc208 : F13_crossroadslaw28_plain w5 = c208 at hL_44
         have hpo0_c208 := post_i13 w5 (by omega); rw [hc208] at hpo0_c208
         try dsimp only at hL_44
         refine RD.callp (r := .agg [.ro 3 (c208.D.map TDomain.c)]) rfl rfl rfl (f13_ok w5 (by omega) _ hc208) rfl rfl ?_
         refine RD.q (.agg (TWorld.c m7)) ?_
         generalize hc210 : F12_crossroadsref28_Same c208 m7 = c210 at hL_44
         try dsimp only at hL_44
         refine RD.callp (r := .bool c210) rfl rfl rfl (f12_ok c208 m7 _ hc210) rfl rfl ?_
         refine RD.q (.bool (!c210)) ?_
         refine RD.q (.bool (!c210)) ?_
         refine RD.m rfl ?_
         rcases bool_two (c210) with hb60 | hb60
         ·rw [hb60]; try simp only [hb60, cond_true, cond_false, Bool.true_and, Bool.false_and, Bool.true_or, Bool.false_or, Bool.not_true, Bool.not_false] at hL_44
          refine RD.skip rfl rfl ?_
          refine RD.skip rfl rfl ?_
          refine RD.skip rfl rfl ?_
          refine RD.skip rfl rfl ?_
          refine RD.skip rfl rfl ?_
          refine RD.q (.bool true) ?_
          refine RD.m rfl ?_
          refine RD.skip rfl rfl ?_
          refine RD.skip rfl rfl ?_
          refine RD.skip rfl rfl ?_
          refine RD.skip rfl rfl ?_
          refine RD.q (.bool true) ?_
          refine RD.m rfl ?_
          refine RD.skip rfl rfl ?_
          refine RD.skip rfl rfl ?_
          refine RD.skip rfl rfl ?_
          refine RD.q (.bool true) ?_
          refine RD.doneB [0, 1, 3, 7, 15, 7, 63, 127, 255, 511, 1023, 2047, 1023, 8191, 16383, 32767, 65535, 131071, 262143, 131071, 1048575, 2097151, 4194303, 8388607, 8388607, 33554431, 67108863] (by kernel_rfl) (by kernel_rfl) (by kernel_rfl) ?_
          refine WK.condT rfl ?_
          refine WK.sr mixed ?_
          refine GX.m rfl ?_
          refine GX.done ?_
          refine WK.ret ?_
          refine QF.ret ?_
          refine QF.ret (hQ_44 _ _ ?_)
          subst hL_44
          subst hR
          exact RetQ.fr [] (.inr rfl) rfl rfl rfl rfl
         ·rw [hb60]; try simp only [hb60, cond_true, cond_false, Bool.true_and, Bool.false_and, Bool.true_or, Bool.false_or, Bool.not_true, Bool.not_false] at hL_44
          refine RD.q (.agg (TWorld.c w5)) ?_
          refine RD.callp (r := .agg [.ro 3 (c208.D.map TDomain.c)]) rfl rfl rfl (f13_ok w5 (by omega) _ hc208) rfl rfl ?_
          refine RD.q (.agg (TWorld.c m7)) ?_
          refine RD.callp (r := .bool c210) rfl rfl rfl (f12_ok c208 m7 _ hc210) rfl rfl ?_
          refine RD.q (.bool (!c210)) ?_
          refine RD.q (.bool (!c210)) ?_
          refine RD.m rfl ?_
          rw [hb60]
          refine RD.q (.agg (TExt.c c191a)) ?_
          generalize hc222 : F23_crossroadslaw28_ext c191a = c222 at hL_44
          try dsimp only at hL_44
          refine RD.callp (r := .agg [.int .u32 c222.P.A, .int .i64 c222.P.N, .int .u32 c222.Tag, .bool c222.Marked]) rfl rfl rfl (f23_ok c191a _ hc222) rfl rfl ?_
          refine RD.q (.agg (TExt.c c201a)) ?_
          refine RD.q (.bool (!(decide (c222.P.A = c201a.P.A) && (decide (c222.P.N = c201a.P.N) && (decide (c222.Tag = c201a.Tag) && ((c222.Marked == c201a.Marked) && true)))))) ?_
          refine RD.q (.bool (!(decide (c222.P.A = c201a.P.A) && (decide (c222.P.N = c201a.P.N) && (decide (c222.Tag = c201a.Tag) && ((c222.Marked == c201a.Marked) && true)))))) ?_
          refine RD.m rfl ?_
          rcases bool_two (decide (c222.P.A = c201a.P.A) && (decide (c222.P.N = c201a.P.N) && (decide (c222.Tag = c201a.Tag) && ((c222.Marked == c201a.Marked) && true)))) with hb61 | hb61
          ·rw [hb61]; try simp only [hb61, cond_true, cond_false, Bool.true_and, Bool.false_and, Bool.true_or, Bool.false_or, Bool.not_true, Bool.not_false] at hL_44
           refine RD.skip rfl rfl ?_
           refine RD.skip rfl rfl ?_
           refine RD.skip rfl rfl ?_
           refine RD.q (.bool true) ?_
           refine RD.doneB [0, 1, 3, 7, 15, 7, 63, 127, 255, 511, 1023, 2047, 1023, 8191, 16383, 32767, 65535, 131071, 262143, 131071, 1048575, 2097151, 4194303, 8388607, 8388607, 33554431, 67108863] (by kernel_rfl) (by kernel_rfl) (by kernel_rfl) ?_
           refine WK.condT rfl ?_
           refine WK.sr mixed ?_
           refine GX.m rfl ?_
           refine GX.done ?_
           refine WK.ret ?_
           refine QF.ret ?_
           refine QF.ret (hQ_44 _ _ ?_)
           subst hL_44
           subst hR
           exact RetQ.fr [] (.inr rfl) rfl rfl rfl rfl
          ·rw [hb61]; try simp only [hb61, cond_true, cond_false, Bool.true_and, Bool.false_and, Bool.true_or, Bool.false_or, Bool.not_true, Bool.not_false] at hL_44
           refine RD.m rfl ?_
           refine RD.m rfl ?_
           refine RD.q (.bool (!(c191b == c201b))) ?_
           refine RD.q (.bool (!(c191b == c201b))) ?_
           refine RD.doneB [0, 1, 3, 7, 15, 7, 63, 127, 255, 511, 1023, 2047, 1023, 8191, 16383, 32767, 65535, 131071, 262143, 131071, 1048575, 2097151, 4194303, 8388607, 8388607, 33554431, 67108863] (by kernel_rfl) (by kernel_rfl) (by kernel_rfl) ?_
           rcases bool_two (c191b == c201b) with hb62 | hb62
           ·rw [hb62]; try simp only [hb62, cond_true, cond_false, Bool.true_and, Bool.false_and, Bool.true_or, Bool.false_or, Bool.not_true, Bool.not_false] at hL_44
            refine WK.condT rfl ?_
            refine WK.sr mixed ?_
            refine GX.m rfl ?_
            refine GX.done ?_
            refine WK.ret ?_
            refine QF.ret ?_
            refine QF.ret (hQ_44 _ _ ?_)
            subst hL_44
            subst hR
            exact RetQ.fr [] (.inr rfl) rfl rfl rfl rfl
           ·rw [hb62]; try simp only [hb62, cond_true, cond_false, Bool.true_and, Bool.false_and, Bool.true_or, Bool.false_or, Bool.not_true, Bool.not_false] at hL_44
            refine WK.condF rfl ?_
            refine WK.skip ?_
            refine WK.nil (QF.normal (hK55 _ ?_))
            refine WK.regx mixed ?_
            refine GX.m rfl ?_
            refine GX.pure (v' := .int .i64 ((i13 + 1 : Nat) : Int)) rfl rfl rfl rfl (congrArg (PVal.int .i64) (wrap_up hlt44 hlen_44)) ?_
            refine GX.m rfl ?_
            refine GX.done ?_
            refine WK.nil (QF.normal ?_)
            exact hagain_44 _ (script1.length - (i13 + 1)) ⟨[(1, .ro 6 (script1.map TAct.c)), (5, .ptr 0 0), (7, .ptr 1 0), (9, .own 2 6 0 (acts9 ++ ([x13] : List TAct)).length), (10, .own 3 6 0 (model10 ++ ([(⟨x13.Kind, c89, x13.P⟩ : TAct)] : List TAct)).length), (11, .ptr 4 0), (12, .ptr 5 0), (13, .int .i64 ((i13 + 1) : Int))], [(0, .box (TWorld.c w5)), (1, .box (TWorld.c m7)), (2, .row 6 31 ((acts9 ++ ([x13] : List TAct)).map TAct.c)), (3, .row 6 58 ((model10 ++ ([(⟨x13.Kind, c89, x13.P⟩ : TAct)] : List TAct)).map TAct.c)), (4, .box (TWorld.c c42a)), (5, .box (TWorld.c c47a))], 6⟩ (by omega) (Conv.keep [0, 1, 10, 12, 4, 5] [] [1, 5, 7, 9, 10, 11, 12, 13] rfl rfl (viewE_cons rfl rfl (viewE_cons rfl rfl (viewE_cons rfl rfl (viewE_cons rfl rfl (viewE_cons rfl rfl (viewE_cons rfl rfl (viewE_cons rfl rfl (viewE_cons rfl rfl viewE_nil)))))))) rfl rfl) ⟨i13 + 1, w5, m7, (acts9 ++ ([x13] : List TAct)), (model10 ++ ([(⟨x13.Kind, c89, x13.P⟩ : TAct)] : List TAct)), (by omega), rfl, (by ((try simp only [List.length_append, List.length_cons, List.length_nil, decide_eq_true_eq] at *) <;> first | omega | (rw [wrap64_of (by omega) (by omega)]; omega))), (by ((try simp only [List.length_append, List.length_cons, List.length_nil, decide_eq_true_eq] at *) <;> first | omega | (rw [wrap64_of (by omega) (by omega)]; omega))), (by omega), (by omega), hL_44, rfl⟩
        ·rw [hb59]; try simp only [hb59, cond_true, cond_false, Bool.true_and, Bool.false_and, Bool.true_or, Bool.false_or, Bool.not_true, Bool.not_false] at hL_44
         refine WK.condT rfl ?_
         refine WK.sr mixed ?_
         refine GX.q (.agg (TWorld.c w5)) ?_
         refine GX.q (.ptr 6 1) ?_
         refine GX.q (.ptr 6 1) ?_
         refine GX.q (.int .i64 x13.B.From) ?_
         refine GX.q (.ptr 6 4) ?_
         refine GX.q (.agg [.int .u32 x13.P.A, .int .i64 x13.P.N]) ?_
         generalize hc166 : F19_redist_Cease w5 x13.B.From x13.P = c166 at hL_44
         have hpo0_c166 := post_i19 w5 x13.B.From x13.P (by omega); rw [hc166] at hpo0_c166
         obtain ⟨c166a, c166b⟩ := c166; try dsimp only at hL_44; try dsimp only at hpo0_c166
         refine GX.callp (r := .tup [.agg [.ro 3 (c166a.D.map TDomain.c)], .bool c166b]) rfl rfl rfl (f19_ok w5 x13.B.From x13.P (by omega) _ hc166) rfl rfl ?_
         refine GX.m rfl ?_
         refine GX.q (.agg [.ro 3 (c166a.D.map TDomain.c)]) ?_
         refine GX.q (.bool c166b) ?_
         refine GX.step (v' := .ptr 13 0) (heap' := [(0, .box (TWorld.c w5)), (1, .box (TWorld.c m7)), (4, .box (TWorld.c c42a)), (5, .box (TWorld.c c47a)), (6, .box (TAct.c x13)), (7, .box (TWorld.c w5)), (8, .box (TWorld.c m7)), (9, .row 6 31 (([x13] : List TAct).map TAct.c)), (10, .row 6 31 ((acts9 ++ ([x13] : List TAct)).map TAct.c)), (11, .row 6 58 (([(⟨x13.Kind, c89, x13.P⟩ : TAct)] : List TAct).map TAct.c)), (12, .row 6 58 ((model10 ++ ([(⟨x13.Kind, c89, x13.P⟩ : TAct)] : List TAct)).map TAct.c)), (13, .box [.nils])]) (next' := 14) rfl rfl rfl rfl rfl rfl rfl ?_
         refine GX.step0 (heap' := [(0, .box (TWorld.c w5)), (1, .box (TWorld.c m7)), (4, .box (TWorld.c c42a)), (5, .box (TWorld.c c47a)), (6, .box (TAct.c x13)), (7, .box (TWorld.c w5)), (8, .box (TWorld.c m7)), (9, .row 6 31 (([x13] : List TAct).map TAct.c)), (10, .row 6 31 ((acts9 ++ ([x13] : List TAct)).map TAct.c)), (11, .row 6 58 (([(⟨x13.Kind, c89, x13.P⟩ : TAct)] : List TAct).map TAct.c)), (12, .row 6 58 ((model10 ++ ([(⟨x13.Kind, c89, x13.P⟩ : TAct)] : List TAct)).map TAct.c)), (13, .box (TWorld.c c166a))]) (next' := 14) rfl rfl rfl rfl rfl ?_
         refine GX.m rfl ?_
         refine GX.done ?_
         refine WK.sr mixed ?_
         refine GX.q (.agg (TWorld.c m7)) ?_
         refine GX.q (.ptr 6 1) ?_
         refine GX.q (.ptr 6 1) ?_
         refine GX.q (.int .i64 x13.B.From) ?_
         refine GX.q (.ptr 6 4) ?_
         refine GX.q (.agg [.int .u32 x13.P.A, .int .i64 x13.P.N]) ?_
         generalize hc176 : F20_crossroadsref28_Cease m7 x13.B.From x13.P = c176 at hL_44
         have hpo0_c176 := post_i20 m7 x13.B.From x13.P (by omega); rw [hc176] at hpo0_c176
         obtain ⟨c176a, c176b⟩ := c176; try dsimp only at hL_44; try dsimp only at hpo0_c176
         refine GX.callp (r := .tup [.agg [.ro 3 (c176a.D.map TDomain.c)], .bool c176b]) rfl rfl rfl (f20_ok m7 x13.B.From x13.P (by omega) _ hc176) rfl rfl ?_
         refine GX.m rfl ?_
         refine GX.q (.agg [.ro 3 (c176a.D.map TDomain.c)]) ?_
         refine GX.q (.bool c176b) ?_
         refine GX.step (v' := .ptr 14 0) (heap' := [(0, .box (TWorld.c w5)), (1, .box (TWorld.c m7)), (4, .box (TWorld.c c42a)), (5, .box (TWorld.c c47a)), (6, .box (TAct.c x13)), (7, .box (TWorld.c w5)), (8, .box (TWorld.c m7)), (9, .row 6 31 (([x13] : List TAct).map TAct.c)), (10, .row 6 31 ((acts9 ++ ([x13] : List TAct)).map TAct.c)), (11, .row 6 58 (([(⟨x13.Kind, c89, x13.P⟩ : TAct)] : List TAct).map TAct.c)), (12, .row 6 58 ((model10 ++ ([(⟨x13.Kind, c89, x13.P⟩ : TAct)] : List TAct)).map TAct.c)), (13, .box (TWorld.c c166a)), (14, .box [.nils])]) (next' := 15) rfl rfl rfl rfl rfl rfl rfl ?_
         refine GX.step0 (heap' := [(0, .box (TWorld.c w5)), (1, .box (TWorld.c m7)), (4, .box (TWorld.c c42a)), (5, .box (TWorld.c c47a)), (6, .box (TAct.c x13)), (7, .box (TWorld.c w5)), (8, .box (TWorld.c m7)), (9, .row 6 31 (([x13] : List TAct).map TAct.c)), (10, .row 6 31 ((acts9 ++ ([x13] : List TAct)).map TAct.c)), (11, .row 6 58 (([(⟨x13.Kind, c89, x13.P⟩ : TAct)] : List TAct).map TAct.c)), (12, .row 6 58 ((model10 ++ ([(⟨x13.Kind, c89, x13.P⟩ : TAct)] : List TAct)).map TAct.c)), (13, .box (TWorld.c c166a)), (14, .box (TWorld.c c176a))]) (next' := 15) rfl rfl rfl rfl rfl ?_
         refine GX.m rfl ?_
         refine GX.done ?_
         refine WK.sr mixed ?_
         refine GX.m rfl ?_
         refine GX.m rfl ?_
         refine GX.q (.bool (c166b == c176b)) ?_
         refine GX.m rfl ?_
         refine GX.done ?_
         refine WK.sr mixed ?_
         refine GX.q (.agg (TWorld.c c166a)) ?_
         refine GX.step0 (heap' := [(0, .box (TWorld.c c166a)), (1, .box (TWorld.c m7)), (4, .box (TWorld.c c42a)), (5, .box (TWorld.c c47a)), (6, .box (TAct.c x13)), (7, .box (TWorld.c w5)), (8, .box (TWorld.c m7)), (9, .row 6 31 (([x13] : List TAct).map TAct.c)), (10, .row 6 31 ((acts9 ++ ([x13] : List TAct)).map TAct.c)), (11, .row 6 58 (([(⟨x13.Kind, c89, x13.P⟩ : TAct)] : List TAct).map TAct.c)), (12, .row 6 58 ((model10 ++ ([(⟨x13.Kind, c89, x13.P⟩ : TAct)] : List TAct)).map TAct.c)), (13, .box (TWorld.c c166a)), (14, .box (TWorld.c c176a))]) (next' := 15) rfl rfl rfl rfl rfl ?_
         refine GX.done ?_
         refine WK.regx mixed ?_
         refine GX.q (.agg (TWorld.c c176a)) ?_
         refine GX.step0 (heap' := [(0, .box (TWorld.c c166a)), (1, .box (TWorld.c c176a)), (4, .box (TWorld.c c42a)), (5, .box (TWorld.c c47a)), (6, .box (TAct.c x13)), (7, .box (TWorld.c w5)), (8, .box (TWorld.c m7)), (9, .row 6 31 (([x13] : List TAct).map TAct.c)), (10, .row 6 31 ((acts9 ++ ([x13] : List TAct)).map TAct.c)), (11, .row 6 58 (([(⟨x13.Kind, c89, x13.P⟩ : TAct)] : List TAct).map TAct.c)), (12, .row 6 58 ((model10 ++ ([(⟨x13.Kind, c89, x13.P⟩ : TAct)] : List TAct)).map TAct.c)), (13, .box (TWorld.c c166a)), (14, .box (TWorld.c c176a))]) (next' := 15) rfl rfl rfl rfl rfl ?_
         refine GX.done ?_
         refine WK.nil (QF.normal (hK56 _ ?_))
         refine WK.sr mixed ?_
         refine GX.q (.agg (TWorld.c c166a)) ?_
         refine GX.q (.ptr 6 1) ?_
         refine GX.q (.ptr 6 2) ?_
         refine GX.q (.int .i64 x13.B.To) ?_
         refine GX.q (.ptr 6 4) ?_
         refine GX.q (.agg [.int .u32 x13.P.A, .int .i64 x13.P.N]) ?_
         generalize hc191 : F21_redist_Has c166a x13.B.To x13.P = c191 at hL_44
         obtain ⟨c191a, c191b⟩ := c191; try dsimp only at hL_44
         refine GX.callp (r := .tup [.agg [.int .u32 c191a.P.A, .int .i64 c191a.P.N, .int .u32 c191a.Tag, .bool c191a.Marked], .bool c191b]) rfl rfl rfl (f21_ok c166a x13.B.To x13.P (by omega) _ hc191) rfl rfl ?_
         refine GX.m rfl ?_
         refine GX.q (.agg [.int .u32 c191a.P.A, .int .i64 c191a.P.N, .int .u32 c191a.Tag, .bool c191a.Marked]) ?_
         refine GX.q (.bool c191b) ?_
         refine GX.step (v' := .ptr 15 0) (heap' := [(0, .box (TWorld.c c166a)), (1, .box (TWorld.c c176a)), (4, .box (TWorld.c c42a)), (5, .box (TWorld.c c47a)), (6, .box (TAct.c x13)), (7, .box (TWorld.c w5)), (8, .box (TWorld.c m7)), (9, .row 6 31 (([x13] : List TAct).map TAct.c)), (10, .row 6 31 ((acts9 ++ ([x13] : List TAct)).map TAct.c)), (11, .row 6 58 (([(⟨x13.Kind, c89, x13.P⟩ : TAct)] : List TAct).map TAct.c)), (12, .row 6 58 ((model10 ++ ([(⟨x13.Kind, c89, x13.P⟩ : TAct)] : List TAct)).map TAct.c)), (13, .box (TWorld.c c166a)), (14, .box (TWorld.c c176a)), (15, .box [.int .u32 0, .int .i64 0, .int .u32 0, .bool false])]) (next' := 16) rfl rfl rfl rfl rfl rfl rfl ?_
         refine GX.step0 (heap' := [(0, .box (TWorld.c c166a)), (1, .box (TWorld.c c176a)), (4, .box (TWorld.c c42a)), (5, .box (TWorld.c c47a)), (6, .box (TAct.c x13)), (7, .box (TWorld.c w5)), (8, .box (TWorld.c m7)), (9, .row 6 31 (([x13] : List TAct).map TAct.c)), (10, .row 6 31 ((acts9 ++ ([x13] : List TAct)).map TAct.c)), (11, .row 6 58 (([(⟨x13.Kind, c89, x13.P⟩ : TAct)] : List TAct).map TAct.c)), (12, .row 6 58 ((model10 ++ ([(⟨x13.Kind, c89, x13.P⟩ : TAct)] : List TAct)).map TAct.c)), (13, .box (TWorld.c c166a)), (14, .box (TWorld.c c176a)), (15, .box (TExt.c c191a))]) (next' := 16) rfl rfl rfl rfl rfl ?_
         refine GX.m rfl ?_
         refine GX.done ?_
         refine WK.sr mixed ?_
         refine GX.q (.agg (TWorld.c c176a)) ?_
         refine GX.q (.ptr 6 1) ?_
         refine GX.q (.ptr 6 2) ?_
         refine GX.q (.int .i64 x13.B.To) ?_
         refine GX.q (.ptr 6 4) ?_
         refine GX.q (.agg [.int .u32 x13.P.A, .int .i64 x13.P.N]) ?_
         generalize hc201 : F22_crossroadsref28_Has c176a x13.B.To x13.P = c201 at hL_44
         obtain ⟨c201a, c201b⟩ := c201; try dsimp only at hL_44
         refine GX.callp (r := .tup [.agg [.int .u32 c201a.P.A, .int .i64 c201a.P.N, .int .u32 c201a.Tag, .bool c201a.Marked], .bool c201b]) rfl rfl rfl (f22_ok c176a x13.B.To x13.P _ hc201) rfl rfl ?_
         refine GX.m rfl ?_
         refine GX.q (.agg [.int .u32 c201a.P.A, .int .i64 c201a.P.N, .int .u32 c201a.Tag, .bool c201a.Marked]) ?_
         refine GX.q (.bool c201b) ?_
         refine GX.step (v' := .ptr 16 0) (heap' := [(0, .box (TWorld.c c166a)), (1, .box (TWorld.c c176a)), (4, .box (TWorld.c c42a)), (5, .box (TWorld.c c47a)), (6, .box (TAct.c x13)), (7, .box (TWorld.c w5)), (8, .box (TWorld.c m7)), (9, .row 6 31 (([x13] : List TAct).map TAct.c)), (10, .row 6 31 ((acts9 ++ ([x13] : List TAct)).map TAct.c)), (11, .row 6 58 (([(⟨x13.Kind, c89, x13.P⟩ : TAct)] : List TAct).map TAct.c)), (12, .row 6 58 ((model10 ++ ([(⟨x13.Kind, c89, x13.P⟩ : TAct)] : List TAct)).map TAct.c)), (13, .box (TWorld.c c166a)), (14, .box (TWorld.c c176a)), (15, .box (TExt.c c191a)), (16, .box [.int .u32 0, .int .i64 0, .int .u32 0, .bool false])]) (next' := 17) rfl rfl rfl rfl rfl rfl rfl ?_
         refine GX.step0 (heap' := [(0, .box (TWorld.c c166a)), (1, .box (TWorld.c c176a)), (4, .box (TWorld.c c42a)), (5, .box (TWorld.c c47a)), (6, .box (TAct.c x13)), (7, .box (TWorld.c w5)), (8, .box (TWorld.c m7)), (9, .row 6 31 (([x13] : List TAct).map TAct.c)), (10, .row 6 31 ((acts9 ++ ([x13] : List TAct)).map TAct.c)), (11, .row 6 58 (([(⟨x13.Kind, c89, x13.P⟩ : TAct)] : List TAct).map TAct.c)), (12, .row 6 58 ((model10 ++ ([(⟨x13.Kind, c89, x13.P⟩ : TAct)] : List TAct)).map TAct.c)), (13, .box (TWorld.c c166a)), (14, .box (TWorld.c c176a)), (15, .box (TExt.c c191a)), (16, .box (TExt.c c201a))]) (next' := 17) rfl rfl rfl rfl rfl ?_
         refine GX.m rfl ?_
         refine GX.done ?_
         refine WK.seq ?_
         refine WK.drawn mixed ?_
         refine RD.m rfl ?_
         refine RD.q (.bool (!(c166b == c176b))) ?_
         refine RD.m rfl ?_
         rcases bool_two (c166b == c176b) with hb63 | hb63
         ·rw [hb63]; try simp only [hb63, cond_true, cond_false, Bool.true_and, Bool.false_and, Bool.true_or, Bool.false_or, Bool.not_true, Bool.not_false] at hL_44
          refine RD.skip rfl rfl ?_
          refine RD.skip rfl rfl ?_
          refine RD.skip rfl rfl ?_
          refine RD.skip rfl rfl ?_
          refine RD.skip rfl rfl ?_
          refine RD.q (.bool true) ?_
          refine RD.m rfl ?_
          refine RD.skip rfl rfl ?_
          refine RD.skip rfl rfl ?_
          refine RD.skip rfl rfl ?_
          refine RD.skip rfl rfl ?_
          refine RD.skip rfl rfl ?_
          refine RD.q (.bool true) ?_
          refine RD.m rfl ?_
          refine RD.skip rfl rfl ?_
          refine RD.skip rfl rfl ?_
          refine RD.skip rfl rfl ?_
          refine RD.skip rfl rfl ?_
          refine RD.q (.bool true) ?_
          refine RD.m rfl ?_
          refine RD.skip rfl rfl ?_
          refine RD.skip rfl rfl ?_
          refine RD.skip rfl rfl ?_
          refine RD.q (.bool true) ?_
          refine RD.doneB [0, 1, 3, 7, 15, 7, 63, 127, 255, 511, 1023, 2047, 1023, 8191, 16383, 32767, 65535, 131071, 262143, 131071, 1048575, 2097151, 4194303, 8388607, 8388607, 33554431, 67108863] (by kernel_rfl) (by kernel_rfl) (by kernel_rfl) ?_
          refine WK.condT rfl ?_
          refine WK.sr mixed ?_
          refine GX.m rfl ?_
          refine GX.done ?_
          refine WK.ret ?_
          refine QF.ret ?_
          refine QF.ret (hQ_44 _ _ ?_)
          subst hL_44
          subst hR
          exact RetQ.fr [] (.inr rfl) rfl rfl rfl rfl
         ·rw [hb63]; try simp only [hb63, cond_true, cond_false, Bool.true_and, Bool.false_and, Bool.true_or, Bool.false_or, Bool.not_true, Bool.not_false] at hL_44
          refine RD.q (.agg (TWorld.c c166a)) ?_
          generalize hc208 : F13_crossroadslaw28_plain c166a = c208 at hL_44
          have hpo0_c208 := post_i13 c166a (by omega); rw [hc208] at hpo0_c208
          try dsimp only at hL_44
          refine RD.callp (r := .agg [.ro 3 (c208.D.map TDomain.c)]) rfl rfl rfl (f13_ok c166a (by omega) _ hc208) rfl rfl ?_
          refine RD.q (.agg (TWorld.c c176a)) ?_
          generalize hc210 : F12_crossroadsref28_Same c208 c176a = c210 at hL_44
          try dsimp only at hL_44
          refine RD.callp (r := .bool c210) rfl rfl rfl (f12_ok c208 c176a _ hc210) rfl rfl ?_
          refine RD.q (.bool (!c210)) ?_
          refine RD.q (.bool (!c210)) ?_
          refine RD.m rfl ?_
          rcases bool_two (c210) with hb64 | hb64
          ·rw [hb64]; try simp only [hb64, cond_true, cond_false, Bool.true_and, Bool.false_and, Bool.true_or, Bool.false_or, Bool.not_true, Bool.not_false] at hL_44
           refine RD.skip rfl rfl ?_
           refine RD.skip rfl rfl ?_
           refine RD.skip rfl rfl ?_
           refine RD.skip rfl rfl ?_
           refine RD.skip rfl rfl ?_
           refine RD.q (.bool true) ?_
           refine RD.m rfl ?_
           refine RD.skip rfl rfl ?_
           refine RD.skip rfl rfl ?_
           refine RD.skip rfl rfl ?_
           refine RD.skip rfl rfl ?_
           refine RD.q (.bool true) ?_
           refine RD.m rfl ?_
           refine RD.skip rfl rfl ?_
           refine RD.skip rfl rfl ?_
           refine RD.skip rfl rfl ?_
           refine RD.q (.bool true) ?_
           refine RD.doneB [0, 1, 3, 7, 15, 7, 63, 127, 255, 511, 1023, 2047, 1023, 8191, 16383, 32767, 65535, 131071, 262143, 131071, 1048575, 2097151, 4194303, 8388607, 8388607, 33554431, 67108863] (by kernel_rfl) (by kernel_rfl) (by kernel_rfl) ?_
           refine WK.condT rfl ?_
           refine WK.sr mixed ?_
           refine GX.m rfl ?_
           refine GX.done ?_
           refine WK.ret ?_
           refine QF.ret ?_
           refine QF.ret (hQ_44 _ _ ?_)
           subst hL_44
           subst hR
           exact RetQ.fr [] (.inr rfl) rfl rfl rfl rfl
          ·rw [hb64]; try simp only [hb64, cond_true, cond_false, Bool.true_and, Bool.false_and, Bool.true_or, Bool.false_or, Bool.not_true, Bool.not_false] at hL_44
           refine RD.q (.agg (TWorld.c w5)) ?_
           generalize hc215 : F13_crossroadslaw28_plain w5 = c215 at hL_44
           have hpo0_c215 := post_i13 w5 (by omega); rw [hc215] at hpo0_c215
           try dsimp only at hL_44
           refine RD.callp (r := .agg [.ro 3 (c215.D.map TDomain.c)]) rfl rfl rfl (f13_ok w5 (by omega) _ hc215) rfl rfl ?_
           refine RD.q (.agg (TWorld.c m7)) ?_
           generalize hc217 : F12_crossroadsref28_Same c215 m7 = c217 at hL_44
           try dsimp only at hL_44
           refine RD.callp (r := .bool c217) rfl rfl rfl (f12_ok c215 m7 _ hc217) rfl rfl ?_
           refine RD.q (.bool (!c217)) ?_
           refine RD.q (.bool (!c217)) ?_
           refine RD.m rfl ?_
           rcases bool_two (c217) with hb65 | hb65
           ·rw [hb65]; try simp only [hb65, cond_true, cond_false, Bool.true_and, Bool.false_and, Bool.true_or, Bool.false_or, Bool.not_true, Bool.not_false] at hL_44
            refine RD.skip rfl rfl ?_
            refine RD.skip rfl rfl ?_
            refine RD.skip rfl rfl ?_
            refine RD.skip rfl rfl ?_
            refine RD.q (.bool true) ?_
            refine RD.m rfl ?_
            refine RD.skip rfl rfl ?_
            refine RD.skip rfl rfl ?_
            refine RD.skip rfl rfl ?_
            refine RD.q (.bool true) ?_
            refine RD.doneB [0, 1, 3, 7, 15, 7, 63, 127, 255, 511, 1023, 2047, 1023, 8191, 16383, 32767, 65535, 131071, 262143, 131071, 1048575, 2097151, 4194303, 8388607, 8388607, 33554431, 67108863] (by kernel_rfl) (by kernel_rfl) (by kernel_rfl) ?_
            refine WK.condT rfl ?_
            refine WK.sr mixed ?_
            refine GX.m rfl ?_
            refine GX.done ?_
            refine WK.ret ?_
            refine QF.ret ?_
            refine QF.ret (hQ_44 _ _ ?_)
            subst hL_44
            subst hR
            exact RetQ.fr [] (.inr rfl) rfl rfl rfl rfl
           ·rw [hb65]; try simp only [hb65, cond_true, cond_false, Bool.true_and, Bool.false_and, Bool.true_or, Bool.false_or, Bool.not_true, Bool.not_false] at hL_44
            refine RD.q (.agg (TExt.c c191a)) ?_
            generalize hc222 : F23_crossroadslaw28_ext c191a = c222 at hL_44
            try dsimp only at hL_44
            refine RD.callp (r := .agg [.int .u32 c222.P.A, .int .i64 c222.P.N, .int .u32 c222.Tag, .bool c222.Marked]) rfl rfl rfl (f23_ok c191a _ hc222) rfl rfl ?_
            refine RD.q (.agg (TExt.c c201a)) ?_
            refine RD.q (.bool (!(decide (c222.P.A = c201a.P.A) && (decide (c222.P.N = c201a.P.N) && (decide (c222.Tag = c201a.Tag) && ((c222.Marked == c201a.Marked) && true)))))) ?_
            refine RD.q (.bool (!(decide (c222.P.A = c201a.P.A) && (decide (c222.P.N = c201a.P.N) && (decide (c222.Tag = c201a.Tag) && ((c222.Marked == c201a.Marked) && true)))))) ?_
            refine RD.m rfl ?_
            rcases bool_two (decide (c222.P.A = c201a.P.A) && (decide (c222.P.N = c201a.P.N) && (decide (c222.Tag = c201a.Tag) && ((c222.Marked == c201a.Marked) && true)))) with hb66 | hb66
            ·rw [hb66]; try simp only [hb66, cond_true, cond_false, Bool.true_and, Bool.false_and, Bool.true_or, Bool.false_or, Bool.not_true, Bool.not_false] at hL_44
             refine RD.skip rfl rfl ?_
             refine RD.skip rfl rfl ?_
             refine RD.skip rfl rfl ?_
             refine RD.q (.bool true) ?_
             refine RD.doneB [0, 1, 3, 7, 15, 7, 63, 127, 255, 511, 1023, 2047, 1023, 8191, 16383, 32767, 65535, 131071, 262143, 131071, 1048575, 2097151, 4194303, 8388607, 8388607, 33554431, 67108863] (by kernel_rfl) (by kernel_rfl) (by kernel_rfl) ?_
             refine WK.condT rfl ?_
             refine WK.sr mixed ?_
             refine GX.m rfl ?_
             refine GX.done ?_
             refine WK.ret ?_
             refine QF.ret ?_
             refine QF.ret (hQ_44 _ _ ?_)
             subst hL_44
             subst hR
             exact RetQ.fr [] (.inr rfl) rfl rfl rfl rfl
            ·rw [hb66]; try simp only [hb66, cond_true, cond_false, Bool.true_and, Bool.false_and, Bool.true_or, Bool.false_or, Bool.not_true, Bool.not_false] at hL_44
             refine RD.m rfl ?_
             refine RD.m rfl ?_
             refine RD.q (.bool (!(c191b == c201b))) ?_
             refine RD.q (.bool (!(c191b == c201b))) ?_
             refine RD.doneB [0, 1, 3, 7, 15, 7, 63, 127, 255, 511, 1023, 2047, 1023, 8191, 16383, 32767, 65535, 131071, 262143, 131071, 1048575, 2097151, 4194303, 8388607, 8388607, 33554431, 67108863] (by kernel_rfl) (by kernel_rfl) (by kernel_rfl) ?_
             rcases bool_two (c191b == c201b) with hb67 | hb67
             ·rw [hb67]; try simp only [hb67, cond_true, cond_false, Bool.true_and, Bool.false_and, Bool.true_or, Bool.false_or, Bool.not_true, Bool.not_false] at hL_44
              refine WK.condT rfl ?_
              refine WK.sr mixed ?_
              refine GX.m rfl ?_
              refine GX.done ?_
              refine WK.ret ?_
              refine QF.ret ?_
              refine QF.ret (hQ_44 _ _ ?_)
              subst hL_44
              subst hR
              exact RetQ.fr [] (.inr rfl) rfl rfl rfl rfl
             ·rw [hb67]; try simp only [hb67, cond_true, cond_false, Bool.true_and, Bool.false_and, Bool.true_or, Bool.false_or, Bool.not_true, Bool.not_false] at hL_44
              refine WK.condF rfl ?_
              refine WK.skip ?_
              refine WK.nil (QF.normal (hK55 _ ?_))
              refine WK.regx mixed ?_
              refine GX.m rfl ?_
              refine GX.pure (v' := .int .i64 ((i13 + 1 : Nat) : Int)) rfl rfl rfl rfl (congrArg (PVal.int .i64) (wrap_up hlt44 hlen_44)) ?_
              refine GX.m rfl ?_
              refine GX.done ?_
              refine WK.nil (QF.normal ?_)
              exact hagain_44 _ (script1.length - (i13 + 1)) ⟨[(1, .ro 6 (script1.map TAct.c)), (5, .ptr 0 0), (7, .ptr 1 0), (9, .own 2 6 0 (acts9 ++ ([x13] : List TAct)).length), (10, .own 3 6 0 (model10 ++ ([(⟨x13.Kind, c89, x13.P⟩ : TAct)] : List TAct)).length), (11, .ptr 4 0), (12, .ptr 5 0), (13, .int .i64 ((i13 + 1) : Int))], [(0, .box (TWorld.c c166a)), (1, .box (TWorld.c c176a)), (2, .row 6 31 ((acts9 ++ ([x13] : List TAct)).map TAct.c)), (3, .row 6 58 ((model10 ++ ([(⟨x13.Kind, c89, x13.P⟩ : TAct)] : List TAct)).map TAct.c)), (4, .box (TWorld.c c42a)), (5, .box (TWorld.c c47a))], 6⟩ (by omega) (Conv.keep [0, 1, 10, 12, 4, 5] [] [1, 5, 7, 9, 10, 11, 12, 13] rfl rfl (viewE_cons rfl rfl (viewE_cons rfl rfl (viewE_cons rfl rfl (viewE_cons rfl rfl (viewE_cons rfl rfl (viewE_cons rfl rfl (viewE_cons rfl rfl (viewE_cons rfl rfl viewE_nil)))))))) rfl rfl) ⟨i13 + 1, c166a, c176a, (acts9 ++ ([x13] : List TAct)), (model10 ++ ([(⟨x13.Kind, c89, x13.P⟩ : TAct)] : List TAct)), (by omega), rfl, (by ((try simp only [List.length_append, List.length_cons, List.length_nil, decide_eq_true_eq] at *) <;> first | omega | (rw [wrap64_of (by omega) (by omega)]; omega))), (by ((try simp only [List.length_append, List.length_cons, List.length_nil, decide_eq_true_eq] at *) <;> first | omega | (rw [wrap64_of (by omega) (by omega)]; omega))), (by omega), (by omega), hL_44, rfl⟩
       ·rw [hb58]; try simp only [hb58, cond_true, cond_false, Bool.true_and, Bool.false_and, Bool.true_or, Bool.false_or, Bool.not_true, Bool.not_false] at hL_44
        refine WK.condT rfl ?_
        refine WK.sr mixed ?_
        refine GX.q (.agg (TWorld.c w5)) ?_
        refine GX.q (.ptr 6 1) ?_
        refine GX.q (.agg [.int .i64 x13.B.From, .int .i64 x13.B.To, .bool x13.B.Provider]) ?_
        refine GX.q (.ptr 6 4) ?_
        refine GX.q (.agg [.int .u32 x13.P.A, .int .i64 x13.P.N]) ?_
        generalize hc132 : F17_redist_Tell w5 x13.B x13.P = c132 at hL_44
        have hpo0_c132 := post_i17 w5 x13.B x13.P (by omega); rw [hc132] at hpo0_c132
        obtain ⟨c132a, c132b, c132c⟩ := c132; try dsimp only at hL_44; try dsimp only at hpo0_c132
        refine GX.callp (r := .tup [.agg [.ro 3 (c132a.D.map TDomain.c)], .bool c132b, .int .i64 c132c]) rfl rfl rfl (f17_ok w5 x13.B x13.P (by omega) _ hc132) rfl rfl ?_
        refine GX.m rfl ?_
        refine GX.q (.agg [.ro 3 (c132a.D.map TDomain.c)]) ?_
        refine GX.q (.bool c132b) ?_
        refine GX.q (.int .i64 c132c) ?_
        refine GX.step (v' := .ptr 13 0) (heap' := [(0, .box (TWorld.c w5)), (1, .box (TWorld.c m7)), (4, .box (TWorld.c c42a)), (5, .box (TWorld.c c47a)), (6, .box (TAct.c x13)), (7, .box (TWorld.c w5)), (8, .box (TWorld.c m7)), (9, .row 6 31 (([x13] : List TAct).map TAct.c)), (10, .row 6 31 ((acts9 ++ ([x13] : List TAct)).map TAct.c)), (11, .row 6 58 (([(⟨x13.Kind, c89, x13.P⟩ : TAct)] : List TAct).map TAct.c)), (12, .row 6 58 ((model10 ++ ([(⟨x13.Kind, c89, x13.P⟩ : TAct)] : List TAct)).map TAct.c)), (13, .box [.nils])]) (next' := 14) rfl rfl rfl rfl rfl rfl rfl ?_
        refine GX.step0 (heap' := [(0, .box (TWorld.c w5)), (1, .box (TWorld.c m7)), (4, .box (TWorld.c c42a)), (5, .box (TWorld.c c47a)), (6, .box (TAct.c x13)), (7, .box (TWorld.c w5)), (8, .box (TWorld.c m7)), (9, .row 6 31 (([x13] : List TAct).map TAct.c)), (10, .row 6 31 ((acts9 ++ ([x13] : List TAct)).map TAct.c)), (11, .row 6 58 (([(⟨x13.Kind, c89, x13.P⟩ : TAct)] : List TAct).map TAct.c)), (12, .row 6 58 ((model10 ++ ([(⟨x13.Kind, c89, x13.P⟩ : TAct)] : List TAct)).map TAct.c)), (13, .box (TWorld.c c132a))]) (next' := 14) rfl rfl rfl rfl rfl ?_
        refine GX.m rfl ?_
        refine GX.m rfl ?_
        refine GX.done ?_
        refine WK.seq ?_
        refine WK.drawn mixed ?_
        refine RD.q (.agg (TWorld.c m7)) ?_
        refine RD.q (.ptr 6 1) ?_
        refine RD.q (.agg [.int .i64 x13.B.From, .int .i64 x13.B.To, .bool x13.B.Provider]) ?_
        refine RD.callp (r := .agg [.int .i64 c89.From, .int .i64 c89.To, .bool c89.Provider]) rfl rfl rfl (f14_ok x13.B _ hc89) rfl rfl ?_
        refine RD.q (.ptr 6 4) ?_
        refine RD.q (.agg [.int .u32 x13.P.A, .int .i64 x13.P.N]) ?_
        generalize hc143 : F18_crossroadsref28_Tell m7 c89 x13.P = c143 at hL_44
        have hpo0_c143 := post_i18 m7 c89 x13.P (by omega); rw [hc143] at hpo0_c143
        obtain ⟨c143a, c143b, c143c⟩ := c143; try dsimp only at hL_44; try dsimp only at hpo0_c143
        refine RD.callp (r := .tup [.agg [.ro 3 (c143a.D.map TDomain.c)], .bool c143b, .int .i64 c143c]) rfl rfl rfl (f18_ok m7 c89 x13.P (by omega) _ hc143) rfl rfl ?_
        refine RD.m rfl ?_
        refine RD.q (.agg [.ro 3 (c143a.D.map TDomain.c)]) ?_
        refine RD.q (.bool c143b) ?_
        refine RD.q (.int .i64 c143c) ?_
        refine RD.step (v' := .ptr 14 0) (heap' := [(0, .box (TWorld.c w5)), (1, .box (TWorld.c m7)), (4, .box (TWorld.c c42a)), (5, .box (TWorld.c c47a)), (6, .box (TAct.c x13)), (7, .box (TWorld.c w5)), (8, .box (TWorld.c m7)), (9, .row 6 31 (([x13] : List TAct).map TAct.c)), (10, .row 6 31 ((acts9 ++ ([x13] : List TAct)).map TAct.c)), (11, .row 6 58 (([(⟨x13.Kind, c89, x13.P⟩ : TAct)] : List TAct).map TAct.c)), (12, .row 6 58 ((model10 ++ ([(⟨x13.Kind, c89, x13.P⟩ : TAct)] : List TAct)).map TAct.c)), (13, .box (TWorld.c c132a)), (14, .box [.nils])]) (next' := 15) rfl rfl rfl rfl rfl rfl rfl ?_
        refine RD.step0 (heap' := [(0, .box (TWorld.c w5)), (1, .box (TWorld.c m7)), (4, .box (TWorld.c c42a)), (5, .box (TWorld.c c47a)), (6, .box (TAct.c x13)), (7, .box (TWorld.c w5)), (8, .box (TWorld.c m7)), (9, .row 6 31 (([x13] : List TAct).map TAct.c)), (10, .row 6 31 ((acts9 ++ ([x13] : List TAct)).map TAct.c)), (11, .row 6 58 (([(⟨x13.Kind, c89, x13.P⟩ : TAct)] : List TAct).map TAct.c)), (12, .row 6 58 ((model10 ++ ([(⟨x13.Kind, c89, x13.P⟩ : TAct)] : List TAct)).map TAct.c)), (13, .box (TWorld.c c132a)), (14, .box (TWorld.c c143a))]) (next' := 15) rfl rfl rfl rfl rfl ?_
        refine RD.m rfl ?_
        refine RD.m rfl ?_
        refine RD.done rfl ?_
        refine WK.sr mixed ?_
        refine GX.m rfl ?_
        refine GX.m rfl ?_
        refine GX.q (.bool (c132b == c143b)) ?_
        refine GX.m rfl ?_
        rcases bool_two ((c132b == c143b)) with hb68 | hb68
        ·rw [hb68]; try simp only [hb68, cond_true, cond_false, Bool.true_and, Bool.false_and, Bool.true_or, Bool.false_or, Bool.not_true, Bool.not_false] at hL_44
         refine GX.skip rfl rfl ?_
         refine GX.skip rfl rfl ?_
         refine GX.skip rfl rfl ?_
         refine GX.q (.bool false) ?_
         refine GX.m rfl ?_
         refine GX.done ?_
         refine WK.sr mixed ?_
         refine GX.q (.agg (TWorld.c c132a)) ?_
         refine GX.step0 (heap' := [(0, .box (TWorld.c c132a)), (1, .box (TWorld.c m7)), (4, .box (TWorld.c c42a)), (5, .box (TWorld.c c47a)), (6, .box (TAct.c x13)), (7, .box (TWorld.c w5)), (8, .box (TWorld.c m7)), (9, .row 6 31 (([x13] : List TAct).map TAct.c)), (10, .row 6 31 ((acts9 ++ ([x13] : List TAct)).map TAct.c)), (11, .row 6 58 (([(⟨x13.Kind, c89, x13.P⟩ : TAct)] : List TAct).map TAct.c)), (12, .row 6 58 ((model10 ++ ([(⟨x13.Kind, c89, x13.P⟩ : TAct)] : List TAct)).map TAct.c)), (13, .box (TWorld.c c132a)), (14, .box (TWorld.c c143a))]) (next' := 15) rfl rfl rfl rfl rfl ?_
         refine GX.done ?_
         refine WK.regx mixed ?_
         refine GX.q (.agg (TWorld.c c143a)) ?_
         refine GX.step0 (heap' := [(0, .box (TWorld.c c132a)), (1, .box (TWorld.c c143a)), (4, .box (TWorld.c c42a)), (5, .box (TWorld.c c47a)), (6, .box (TAct.c x13)), (7, .box (TWorld.c w5)), (8, .box (TWorld.c m7)), (9, .row 6 31 (([x13] : List TAct).map TAct.c)), (10, .row 6 31 ((acts9 ++ ([x13] : List TAct)).map TAct.c)), (11, .row 6 58 (([(⟨x13.Kind, c89, x13.P⟩ : TAct)] : List TAct).map TAct.c)), (12, .row 6 58 ((model10 ++ ([(⟨x13.Kind, c89, x13.P⟩ : TAct)] : List TAct)).map TAct.c)), (13, .box (TWorld.c c132a)), (14, .box (TWorld.c c143a))]) (next' := 15) rfl rfl rfl rfl rfl ?_
         refine GX.done ?_
         refine WK.nil (QF.normal (hK56 _ ?_))
         refine WK.sr mixed ?_
         refine GX.q (.agg (TWorld.c c132a)) ?_
         refine GX.q (.ptr 6 1) ?_
         refine GX.q (.ptr 6 2) ?_
         refine GX.q (.int .i64 x13.B.To) ?_
         refine GX.q (.ptr 6 4) ?_
         refine GX.q (.agg [.int .u32 x13.P.A, .int .i64 x13.P.N]) ?_
         generalize hc191 : F21_redist_Has c132a x13.B.To x13.P = c191 at hL_44
         obtain ⟨c191a, c191b⟩ := c191; try dsimp only at hL_44
         refine GX.callp (r := .tup [.agg [.int .u32 c191a.P.A, .int .i64 c191a.P.N, .int .u32 c191a.Tag, .bool c191a.Marked], .bool c191b]) rfl rfl rfl (f21_ok c132a x13.B.To x13.P (by omega) _ hc191) rfl rfl ?_
         refine GX.m rfl ?_
         refine GX.q (.agg [.int .u32 c191a.P.A, .int .i64 c191a.P.N, .int .u32 c191a.Tag, .bool c191a.Marked]) ?_
         refine GX.q (.bool c191b) ?_
         refine GX.step (v' := .ptr 15 0) (heap' := [(0, .box (TWorld.c c132a)), (1, .box (TWorld.c c143a)), (4, .box (TWorld.c c42a)), (5, .box (TWorld.c c47a)), (6, .box (TAct.c x13)), (7, .box (TWorld.c w5)), (8, .box (TWorld.c m7)), (9, .row 6 31 (([x13] : List TAct).map TAct.c)), (10, .row 6 31 ((acts9 ++ ([x13] : List TAct)).map TAct.c)), (11, .row 6 58 (([(⟨x13.Kind, c89, x13.P⟩ : TAct)] : List TAct).map TAct.c)), (12, .row 6 58 ((model10 ++ ([(⟨x13.Kind, c89, x13.P⟩ : TAct)] : List TAct)).map TAct.c)), (13, .box (TWorld.c c132a)), (14, .box (TWorld.c c143a)), (15, .box [.int .u32 0, .int .i64 0, .int .u32 0, .bool false])]) (next' := 16) rfl rfl rfl rfl rfl rfl rfl ?_
         refine GX.step0 (heap' := [(0, .box (TWorld.c c132a)), (1, .box (TWorld.c c143a)), (4, .box (TWorld.c c42a)), (5, .box (TWorld.c c47a)), (6, .box (TAct.c x13)), (7, .box (TWorld.c w5)), (8, .box (TWorld.c m7)), (9, .row 6 31 (([x13] : List TAct).map TAct.c)), (10, .row 6 31 ((acts9 ++ ([x13] : List TAct)).map TAct.c)), (11, .row 6 58 (([(⟨x13.Kind, c89, x13.P⟩ : TAct)] : List TAct).map TAct.c)), (12, .row 6 58 ((model10 ++ ([(⟨x13.Kind, c89, x13.P⟩ : TAct)] : List TAct)).map TAct.c)), (13, .box (TWorld.c c132a)), (14, .box (TWorld.c c143a)), (15, .box (TExt.c c191a))]) (next' := 16) rfl rfl rfl rfl rfl ?_
         refine GX.m rfl ?_
         refine GX.done ?_
         refine WK.sr mixed ?_
         refine GX.q (.agg (TWorld.c c143a)) ?_
         refine GX.q (.ptr 6 1) ?_
         refine GX.q (.ptr 6 2) ?_
         refine GX.q (.int .i64 x13.B.To) ?_
         refine GX.q (.ptr 6 4) ?_
         refine GX.q (.agg [.int .u32 x13.P.A, .int .i64 x13.P.N]) ?_
         generalize hc201 : F22_crossroadsref28_Has c143a x13.B.To x13.P = c201 at hL_44
         obtain ⟨c201a, c201b⟩ := c201; try dsimp only at hL_44
         refine GX.callp (r := .tup [.agg [.int .u32 c201a.P.A, .int .i64 c201a.P.N, .int .u32 c201a.Tag, .bool c201a.Marked], .bool c201b]) rfl rfl rfl (f22_ok c143a x13.B.To x13.P _ hc201) rfl rfl ?_
         refine GX.m rfl ?_
         refine GX.q (.agg [.int .u32 c201a.P.A, .int .i64 c201a.P.N, .int .u32 c201a.Tag, .bool c201a.Marked]) ?_
         refine GX.q (.bool c201b) ?_
         refine GX.step (v' := .ptr 16 0) (heap' := [(0, .box (TWorld.c c132a)), (1, .box (TWorld.c c143a)), (4, .box (TWorld.c c42a)), (5, .box (TWorld.c c47a)), (6, .box (TAct.c x13)), (7, .box (TWorld.c w5)), (8, .box (TWorld.c m7)), (9, .row 6 31 (([x13] : List TAct).map TAct.c)), (10, .row 6 31 ((acts9 ++ ([x13] : List TAct)).map TAct.c)), (11, .row 6 58 (([(⟨x13.Kind, c89, x13.P⟩ : TAct)] : List TAct).map TAct.c)), (12, .row 6 58 ((model10 ++ ([(⟨x13.Kind, c89, x13.P⟩ : TAct)] : List TAct)).map TAct.c)), (13, .box (TWorld.c c132a)), (14, .box (TWorld.c c143a)), (15, .box (TExt.c c191a)), (16, .box [.int .u32 0, .int .i64 0, .int .u32 0, .bool false])]) (next' := 17) rfl rfl rfl rfl rfl rfl rfl ?_
         refine GX.step0 (heap' := [(0, .box (TWorld.c c132a)), (1, .box (TWorld.c c143a)), (4, .box (TWorld.c c42a)), (5, .box (TWorld.c c47a)), (6, .box (TAct.c x13)), (7, .box (TWorld.c w5)), (8, .box (TWorld.c m7)), (9, .row 6 31 (([x13] : List TAct).map TAct.c)), (10, .row 6 31 ((acts9 ++ ([x13] : List TAct)).map TAct.c)), (11, .row 6 58 (([(⟨x13.Kind, c89, x13.P⟩ : TAct)] : List TAct).map TAct.c)), (12, .row 6 58 ((model10 ++ ([(⟨x13.Kind, c89, x13.P⟩ : TAct)] : List TAct)).map TAct.c)), (13, .box (TWorld.c c132a)), (14, .box (TWorld.c c143a)), (15, .box (TExt.c c191a)), (16, .box (TExt.c c201a))]) (next' := 17) rfl rfl rfl rfl rfl ?_
         refine GX.m rfl ?_
         refine GX.done ?_
         refine WK.seq ?_
         refine WK.drawn mixed ?_
         refine RD.m rfl ?_
         refine RD.q (.bool true) ?_
         refine RD.m rfl ?_
         refine RD.skip rfl rfl ?_
         refine RD.skip rfl rfl ?_
         refine RD.skip rfl rfl ?_
         refine RD.skip rfl rfl ?_
         refine RD.skip rfl rfl ?_
         refine RD.q (.bool true) ?_
         refine RD.m rfl ?_
         refine RD.skip rfl rfl ?_
         refine RD.skip rfl rfl ?_
         refine RD.skip rfl rfl ?_
         refine RD.skip rfl rfl ?_
         refine RD.skip rfl rfl ?_
         refine RD.q (.bool true) ?_
         refine RD.m rfl ?_
         refine RD.skip rfl rfl ?_
         refine RD.skip rfl rfl ?_
         refine RD.skip rfl rfl ?_
         refine RD.skip rfl rfl ?_
         refine RD.q (.bool true) ?_
         refine RD.m rfl ?_
         refine RD.skip rfl rfl ?_
         refine RD.skip rfl rfl ?_
         refine RD.skip rfl rfl ?_
         refine RD.q (.bool true) ?_
         refine RD.doneB [0, 1, 3, 7, 15, 7, 63, 127, 255, 511, 1023, 2047, 1023, 8191, 16383, 32767, 65535, 131071, 262143, 131071, 1048575, 2097151, 4194303, 8388607, 8388607, 33554431, 67108863] (by kernel_rfl) (by kernel_rfl) (by kernel_rfl) ?_
         refine WK.condT rfl ?_
         refine WK.sr mixed ?_
         refine GX.m rfl ?_
         refine GX.done ?_
         refine WK.ret ?_
         refine QF.ret ?_
         refine QF.ret (hQ_44 _ _ ?_)
         subst hL_44
         subst hR
         exact RetQ.fr [] (.inr rfl) rfl rfl rfl rfl
        ·rw [hb68]; try simp only [hb68, cond_true, cond_false, Bool.true_and, Bool.false_and, Bool.true_or, Bool.false_or, Bool.not_true, Bool.not_false] at hL_44
         refine GX.m rfl ?_
         refine GX.m rfl ?_
         refine GX.q (.bool (decide (c132c = c143c))) ?_
         refine GX.q (.bool (decide (c132c = c143c))) ?_
         refine GX.m rfl ?_
         refine GX.done ?_
         refine WK.sr mixed ?_
         refine GX.q (.agg (TWorld.c c132a)) ?_
         refine GX.step0 (heap' := [(0, .box (TWorld.c c132a)), (1, .box (TWorld.c m7)), (4, .box (TWorld.c c42a)), (5, .box (TWorld.c c47a)), (6, .box (TAct.c x13)), (7, .box (TWorld.c w5)), (8, .box (TWorld.c m7)), (9, .row 6 31 (([x13] : List TAct).map TAct.c)), (10, .row 6 31 ((acts9 ++ ([x13] : List TAct)).map TAct.c)), (11, .row 6 58 (([(⟨x13.Kind, c89, x13.P⟩ : TAct)] : List TAct).map TAct.c)), (12, .row 6 58 ((model10 ++ ([(⟨x13.Kind, c89, x13.P⟩ : TAct)] : List TAct)).map TAct.c)), (13, .box (TWorld.c c132a)), (14, .box (TWorld.c c143a))]) (next' := 15) rfl rfl rfl rfl rfl ?_
         refine GX.done ?_
         refine WK.regx mixed ?_
         refine GX.q (.agg (TWorld.c c143a)) ?_
         refine GX.step0 (heap' := [(0, .box (TWorld.c c132a)), (1, .box (TWorld.c c143a)), (4, .box (TWorld.c c42a)), (5, .box (TWorld.c c47a)), (6, .box (TAct.c x13)), (7, .box (TWorld.c w5)), (8, .box (TWorld.c m7)), (9, .row 6 31 (([x13] : List TAct).map TAct.c)), (10, .row 6 31 ((acts9 ++ ([x13] : List TAct)).map TAct.c)), (11, .row 6 58 (([(⟨x13.Kind, c89, x13.P⟩ : TAct)] : List TAct).map TAct.c)), (12, .row 6 58 ((model10 ++ ([(⟨x13.Kind, c89, x13.P⟩ : TAct)] : List TAct)).map TAct.c)), (13, .box (TWorld.c c132a)), (14, .box (TWorld.c c143a))]) (next' := 15) rfl rfl rfl rfl rfl ?_
         refine GX.done ?_
         refine WK.nil (QF.normal (hK56 _ ?_))
         refine WK.sr mixed ?_
         refine GX.q (.agg (TWorld.c c132a)) ?_
         refine GX.q (.ptr 6 1) ?_
         refine GX.q (.ptr 6 2) ?_
         refine GX.q (.int .i64 x13.B.To) ?_
         refine GX.q (.ptr 6 4) ?_
         refine GX.q (.agg [.int .u32 x13.P.A, .int .i64 x13.P.N]) ?_
         generalize hc191 : F21_redist_Has c132a x13.B.To x13.P = c191 at hL_44
         obtain ⟨c191a, c191b⟩ := c191; try dsimp only at hL_44
         refine GX.callp (r := .tup [.agg [.int .u32 c191a.P.A, .int .i64 c191a.P.N, .int .u32 c191a.Tag, .bool c191a.Marked], .bool c191b]) rfl rfl rfl (f21_ok c132a x13.B.To x13.P (by omega) _ hc191) rfl rfl ?_
         refine GX.m rfl ?_
         refine GX.q (.agg [.int .u32 c191a.P.A, .int .i64 c191a.P.N, .int .u32 c191a.Tag, .bool c191a.Marked]) ?_
         refine GX.q (.bool c191b) ?_
         refine GX.step (v' := .ptr 15 0) (heap' := [(0, .box (TWorld.c c132a)), (1, .box (TWorld.c c143a)), (4, .box (TWorld.c c42a)), (5, .box (TWorld.c c47a)), (6, .box (TAct.c x13)), (7, .box (TWorld.c w5)), (8, .box (TWorld.c m7)), (9, .row 6 31 (([x13] : List TAct).map TAct.c)), (10, .row 6 31 ((acts9 ++ ([x13] : List TAct)).map TAct.c)), (11, .row 6 58 (([(⟨x13.Kind, c89, x13.P⟩ : TAct)] : List TAct).map TAct.c)), (12, .row 6 58 ((model10 ++ ([(⟨x13.Kind, c89, x13.P⟩ : TAct)] : List TAct)).map TAct.c)), (13, .box (TWorld.c c132a)), (14, .box (TWorld.c c143a)), (15, .box [.int .u32 0, .int .i64 0, .int .u32 0, .bool false])]) (next' := 16) rfl rfl rfl rfl rfl rfl rfl ?_
         refine GX.step0 (heap' := [(0, .box (TWorld.c c132a)), (1, .box (TWorld.c c143a)), (4, .box (TWorld.c c42a)), (5, .box (TWorld.c c47a)), (6, .box (TAct.c x13)), (7, .box (TWorld.c w5)), (8, .box (TWorld.c m7)), (9, .row 6 31 (([x13] : List TAct).map TAct.c)), (10, .row 6 31 ((acts9 ++ ([x13] : List TAct)).map TAct.c)), (11, .row 6 58 (([(⟨x13.Kind, c89, x13.P⟩ : TAct)] : List TAct).map TAct.c)), (12, .row 6 58 ((model10 ++ ([(⟨x13.Kind, c89, x13.P⟩ : TAct)] : List TAct)).map TAct.c)), (13, .box (TWorld.c c132a)), (14, .box (TWorld.c c143a)), (15, .box (TExt.c c191a))]) (next' := 16) rfl rfl rfl rfl rfl ?_
         refine GX.m rfl ?_
         refine GX.done ?_
         refine WK.sr mixed ?_
         refine GX.q (.agg (TWorld.c c143a)) ?_
         refine GX.q (.ptr 6 1) ?_
         refine GX.q (.ptr 6 2) ?_
         refine GX.q (.int .i64 x13.B.To) ?_
         refine GX.q (.ptr 6 4) ?_
         refine GX.q (.agg [.int .u32 x13.P.A, .int .i64 x13.P.N]) ?_
         generalize hc201 : F22_crossroadsref28_Has c143a x13.B.To x13.P = c201 at hL_44
         obtain ⟨c201a, c201b⟩ := c201; try dsimp only at hL_44
         refine GX.callp (r := .tup [.agg [.int .u32 c201a.P.A, .int .i64 c201a.P.N, .int .u32 c201a.Tag, .bool c201a.Marked], .bool c201b]) rfl rfl rfl (f22_ok c143a x13.B.To x13.P _ hc201) rfl rfl ?_
         refine GX.m rfl ?_
         refine GX.q (.agg [.int .u32 c201a.P.A, .int .i64 c201a.P.N, .int .u32 c201a.Tag, .bool c201a.Marked]) ?_
         refine GX.q (.bool c201b) ?_
         refine GX.step (v' := .ptr 16 0) (heap' := [(0, .box (TWorld.c c132a)), (1, .box (TWorld.c c143a)), (4, .box (TWorld.c c42a)), (5, .box (TWorld.c c47a)), (6, .box (TAct.c x13)), (7, .box (TWorld.c w5)), (8, .box (TWorld.c m7)), (9, .row 6 31 (([x13] : List TAct).map TAct.c)), (10, .row 6 31 ((acts9 ++ ([x13] : List TAct)).map TAct.c)), (11, .row 6 58 (([(⟨x13.Kind, c89, x13.P⟩ : TAct)] : List TAct).map TAct.c)), (12, .row 6 58 ((model10 ++ ([(⟨x13.Kind, c89, x13.P⟩ : TAct)] : List TAct)).map TAct.c)), (13, .box (TWorld.c c132a)), (14, .box (TWorld.c c143a)), (15, .box (TExt.c c191a)), (16, .box [.int .u32 0, .int .i64 0, .int .u32 0, .bool false])]) (next' := 17) rfl rfl rfl rfl rfl rfl rfl ?_
         refine GX.step0 (heap' := [(0, .box (TWorld.c c132a)), (1, .box (TWorld.c c143a)), (4, .box (TWorld.c c42a)), (5, .box (TWorld.c c47a)), (6, .box (TAct.c x13)), (7, .box (TWorld.c w5)), (8, .box (TWorld.c m7)), (9, .row 6 31 (([x13] : List TAct).map TAct.c)), (10, .row 6 31 ((acts9 ++ ([x13] : List TAct)).map TAct.c)), (11, .row 6 58 (([(⟨x13.Kind, c89, x13.P⟩ : TAct)] : List TAct).map TAct.c)), (12, .row 6 58 ((model10 ++ ([(⟨x13.Kind, c89, x13.P⟩ : TAct)] : List TAct)).map TAct.c)), (13, .box (TWorld.c c132a)), (14, .box (TWorld.c c143a)), (15, .box (TExt.c c191a)), (16, .box (TExt.c c201a))]) (next' := 17) rfl rfl rfl rfl rfl ?_
         refine GX.m rfl ?_
         refine GX.done ?_
         refine WK.seq ?_
         refine WK.drawn mixed ?_
         refine RD.m rfl ?_
         refine RD.q (.bool (!(decide (c132c = c143c)))) ?_
         refine RD.m rfl ?_
         rcases bool_two (decide (c132c = c143c)) with hb69 | hb69
         ·rw [hb69]; try simp only [hb69, cond_true, cond_false, Bool.true_and, Bool.false_and, Bool.true_or, Bool.false_or, Bool.not_true, Bool.not_false] at hL_44
          refine RD.skip rfl rfl ?_
          refine RD.skip rfl rfl ?_
          refine RD.skip rfl rfl ?_
          refine RD.skip rfl rfl ?_
          refine RD.skip rfl rfl ?_
          refine RD.q (.bool true) ?_
          refine RD.m rfl ?_
          refine RD.skip rfl rfl ?_
          refine RD.skip rfl rfl ?_
          refine RD.skip rfl rfl ?_
          refine RD.skip rfl rfl ?_
          refine RD.skip rfl rfl ?_
          refine RD.q (.bool true) ?_
          refine RD.m rfl ?_
          refine RD.skip rfl rfl ?_
          refine RD.skip rfl rfl ?_
          refine RD.skip rfl rfl ?_
          refine RD.skip rfl rfl ?_
          refine RD.q (.bool true) ?_
          refine RD.m rfl ?_
          refine RD.skip rfl rfl ?_
          refine RD.skip rfl rfl ?_
          refine RD.skip rfl rfl ?_
          refine RD.q (.bool true) ?_
          refine RD.doneB [0, 1, 3, 7, 15, 7, 63, 127, 255, 511, 1023, 2047, 1023, 8191, 16383, 32767, 65535, 131071, 262143, 131071, 1048575, 2097151, 4194303, 8388607, 8388607, 33554431, 67108863] (by kernel_rfl) (by kernel_rfl) (by kernel_rfl) ?_
          refine WK.condT rfl ?_
          refine WK.sr mixed ?_
          refine GX.m rfl ?_
          refine GX.done ?_
          refine WK.ret ?_
          refine QF.ret ?_
          refine QF.ret (hQ_44 _ _ ?_)
          subst hL_44
          subst hR
          exact RetQ.fr [] (.inr rfl) rfl rfl rfl rfl
         ·rw [hb69]; try simp only [hb69, cond_true, cond_false, Bool.true_and, Bool.false_and, Bool.true_or, Bool.false_or, Bool.not_true, Bool.not_false] at hL_44
          refine RD.q (.agg (TWorld.c c132a)) ?_
          generalize hc208 : F13_crossroadslaw28_plain c132a = c208 at hL_44
          have hpo0_c208 := post_i13 c132a (by omega); rw [hc208] at hpo0_c208
          try dsimp only at hL_44
          refine RD.callp (r := .agg [.ro 3 (c208.D.map TDomain.c)]) rfl rfl rfl (f13_ok c132a (by omega) _ hc208) rfl rfl ?_
          refine RD.q (.agg (TWorld.c c143a)) ?_
          generalize hc210 : F12_crossroadsref28_Same c208 c143a = c210 at hL_44
          try dsimp only at hL_44
          refine RD.callp (r := .bool c210) rfl rfl rfl (f12_ok c208 c143a _ hc210) rfl rfl ?_
          refine RD.q (.bool (!c210)) ?_
          refine RD.q (.bool (!c210)) ?_
          refine RD.m rfl ?_
          rcases bool_two (c210) with hb70 | hb70
          ·rw [hb70]; try simp only [hb70, cond_true, cond_false, Bool.true_and, Bool.false_and, Bool.true_or, Bool.false_or, Bool.not_true, Bool.not_false] at hL_44
           refine RD.skip rfl rfl ?_
           refine RD.skip rfl rfl ?_
           refine RD.skip rfl rfl ?_
           refine RD.skip rfl rfl ?_
           refine RD.skip rfl rfl ?_
           refine RD.q (.bool true) ?_
           refine RD.m rfl ?_
           refine RD.skip rfl rfl ?_
           refine RD.skip rfl rfl ?_
           refine RD.skip rfl rfl ?_
           refine RD.skip rfl rfl ?_
           refine RD.q (.bool true) ?_
           refine RD.m rfl ?_
           refine RD.skip rfl rfl ?_
           refine RD.skip rfl rfl ?_
           refine RD.skip rfl rfl ?_
           refine RD.q (.bool true) ?_
           refine RD.doneB [0, 1, 3, 7, 15, 7, 63, 127, 255, 511, 1023, 2047, 1023, 8191, 16383, 32767, 65535, 131071, 262143, 131071, 1048575, 2097151, 4194303, 8388607, 8388607, 33554431, 67108863] (by kernel_rfl) (by kernel_rfl) (by kernel_rfl) ?_
           refine WK.condT rfl ?_
           refine WK.sr mixed ?_
           refine GX.m rfl ?_
           refine GX.done ?_
           refine WK.ret ?_
           refine QF.ret ?_
           refine QF.ret (hQ_44 _ _ ?_)
           subst hL_44
           subst hR
           exact RetQ.fr [] (.inr rfl) rfl rfl rfl rfl
          ·rw [hb70]; try simp only [hb70, cond_true, cond_false, Bool.true_and, Bool.false_and, Bool.true_or, Bool.false_or, Bool.not_true, Bool.not_false] at hL_44
           refine RD.q (.agg (TWorld.c w5)) ?_
           generalize hc215 : F13_crossroadslaw28_plain w5 = c215 at hL_44
           have hpo0_c215 := post_i13 w5 (by omega); rw [hc215] at hpo0_c215
           try dsimp only at hL_44
           refine RD.callp (r := .agg [.ro 3 (c215.D.map TDomain.c)]) rfl rfl rfl (f13_ok w5 (by omega) _ hc215) rfl rfl ?_
           refine RD.q (.agg (TWorld.c m7)) ?_
           generalize hc217 : F12_crossroadsref28_Same c215 m7 = c217 at hL_44
           try dsimp only at hL_44
           refine RD.callp (r := .bool c217) rfl rfl rfl (f12_ok c215 m7 _ hc217) rfl rfl ?_
           refine RD.q (.bool (!c217)) ?_
           refine RD.q (.bool (!c217)) ?_
           refine RD.m rfl ?_
           rcases bool_two (c217) with hb71 | hb71
           ·rw [hb71]; try simp only [hb71, cond_true, cond_false, Bool.true_and, Bool.false_and, Bool.true_or, Bool.false_or, Bool.not_true, Bool.not_false] at hL_44
            refine RD.skip rfl rfl ?_
            refine RD.skip rfl rfl ?_
            refine RD.skip rfl rfl ?_
            refine RD.skip rfl rfl ?_
            refine RD.q (.bool true) ?_
            refine RD.m rfl ?_
            refine RD.skip rfl rfl ?_
            refine RD.skip rfl rfl ?_
            refine RD.skip rfl rfl ?_
            refine RD.q (.bool true) ?_
            refine RD.doneB [0, 1, 3, 7, 15, 7, 63, 127, 255, 511, 1023, 2047, 1023, 8191, 16383, 32767, 65535, 131071, 262143, 131071, 1048575, 2097151, 4194303, 8388607, 8388607, 33554431, 67108863] (by kernel_rfl) (by kernel_rfl) (by kernel_rfl) ?_
            refine WK.condT rfl ?_
            refine WK.sr mixed ?_
            refine GX.m rfl ?_
            refine GX.done ?_
            refine WK.ret ?_
            refine QF.ret ?_
            refine QF.ret (hQ_44 _ _ ?_)
            subst hL_44
            subst hR
            exact RetQ.fr [] (.inr rfl) rfl rfl rfl rfl
           ·rw [hb71]; try simp only [hb71, cond_true, cond_false, Bool.true_and, Bool.false_and, Bool.true_or, Bool.false_or, Bool.not_true, Bool.not_false] at hL_44
            refine RD.q (.agg (TExt.c c191a)) ?_
            generalize hc222 : F23_crossroadslaw28_ext c191a = c222 at hL_44
            try dsimp only at hL_44
            refine RD.callp (r := .agg [.int .u32 c222.P.A, .int .i64 c222.P.N, .int .u32 c222.Tag, .bool c222.Marked]) rfl rfl rfl (f23_ok c191a _ hc222) rfl rfl ?_
            refine RD.q (.agg (TExt.c c201a)) ?_
            refine RD.q (.bool (!(decide (c222.P.A = c201a.P.A) && (decide (c222.P.N = c201a.P.N) && (decide (c222.Tag = c201a.Tag) && ((c222.Marked == c201a.Marked) && true)))))) ?_
            refine RD.q (.bool (!(decide (c222.P.A = c201a.P.A) && (decide (c222.P.N = c201a.P.N) && (decide (c222.Tag = c201a.Tag) && ((c222.Marked == c201a.Marked) && true)))))) ?_
            refine RD.m rfl ?_
            rcases bool_two (decide (c222.P.A = c201a.P.A) && (decide (c222.P.N = c201a.P.N) && (decide (c222.Tag = c201a.Tag) && ((c222.Marked == c201a.Marked) && true)))) with hb72 | hb72
            ·rw [hb72]; try simp only [hb72, cond_true, cond_false, Bool.true_and, Bool.false_and, Bool.true_or, Bool.false_or, Bool.not_true, Bool.not_false] at hL_44
             refine RD.skip rfl rfl ?_
             refine RD.skip rfl rfl ?_
             refine RD.skip rfl rfl ?_
             refine RD.q (.bool true) ?_
             refine RD.doneB [0, 1, 3, 7, 15, 7, 63, 127, 255, 511, 1023, 2047, 1023, 8191, 16383, 32767, 65535, 131071, 262143, 131071, 1048575, 2097151, 4194303, 8388607, 8388607, 33554431, 67108863] (by kernel_rfl) (by kernel_rfl) (by kernel_rfl) ?_
             refine WK.condT rfl ?_
             refine WK.sr mixed ?_
             refine GX.m rfl ?_
             refine GX.done ?_
             refine WK.ret ?_
             refine QF.ret ?_
             refine QF.ret (hQ_44 _ _ ?_)
             subst hL_44
             subst hR
             exact RetQ.fr [] (.inr rfl) rfl rfl rfl rfl
            ·rw [hb72]; try simp only [hb72, cond_true, cond_false, Bool.true_and, Bool.false_and, Bool.true_or, Bool.false_or, Bool.not_true, Bool.not_false] at hL_44
             refine RD.m rfl ?_
             refine RD.m rfl ?_
             refine RD.q (.bool (!(c191b == c201b))) ?_
             refine RD.q (.bool (!(c191b == c201b))) ?_
             refine RD.doneB [0, 1, 3, 7, 15, 7, 63, 127, 255, 511, 1023, 2047, 1023, 8191, 16383, 32767, 65535, 131071, 262143, 131071, 1048575, 2097151, 4194303, 8388607, 8388607, 33554431, 67108863] (by kernel_rfl) (by kernel_rfl) (by kernel_rfl) ?_
             rcases bool_two (c191b == c201b) with hb73 | hb73
             ·rw [hb73]; try simp only [hb73, cond_true, cond_false, Bool.true_and, Bool.false_and, Bool.true_or, Bool.false_or, Bool.not_true, Bool.not_false] at hL_44
              refine WK.condT rfl ?_
              refine WK.sr mixed ?_
              refine GX.m rfl ?_
              refine GX.done ?_
              refine WK.ret ?_
              refine QF.ret ?_
              refine QF.ret (hQ_44 _ _ ?_)
              subst hL_44
              subst hR
              exact RetQ.fr [] (.inr rfl) rfl rfl rfl rfl
             ·rw [hb73]; try simp only [hb73, cond_true, cond_false, Bool.true_and, Bool.false_and, Bool.true_or, Bool.false_or, Bool.not_true, Bool.not_false] at hL_44
              refine WK.condF rfl ?_
              refine WK.skip ?_
              refine WK.nil (QF.normal (hK55 _ ?_))
              refine WK.regx mixed ?_
              refine GX.m rfl ?_
              refine GX.pure (v' := .int .i64 ((i13 + 1 : Nat) : Int)) rfl rfl rfl rfl (congrArg (PVal.int .i64) (wrap_up hlt44 hlen_44)) ?_
              refine GX.m rfl ?_
              refine GX.done ?_
              refine WK.nil (QF.normal ?_)
              exact hagain_44 _ (script1.length - (i13 + 1)) ⟨[(1, .ro 6 (script1.map TAct.c)), (5, .ptr 0 0), (7, .ptr 1 0), (9, .own 2 6 0 (acts9 ++ ([x13] : List TAct)).length), (10, .own 3 6 0 (model10 ++ ([(⟨x13.Kind, c89, x13.P⟩ : TAct)] : List TAct)).length), (11, .ptr 4 0), (12, .ptr 5 0), (13, .int .i64 ((i13 + 1) : Int))], [(0, .box (TWorld.c c132a)), (1, .box (TWorld.c c143a)), (2, .row 6 31 ((acts9 ++ ([x13] : List TAct)).map TAct.c)), (3, .row 6 58 ((model10 ++ ([(⟨x13.Kind, c89, x13.P⟩ : TAct)] : List TAct)).map TAct.c)), (4, .box (TWorld.c c42a)), (5, .box (TWorld.c c47a))], 6⟩ (by omega) (Conv.keep [0, 1, 10, 12, 4, 5] [] [1, 5, 7, 9, 10, 11, 12, 13] rfl rfl (viewE_cons rfl rfl (viewE_cons rfl rfl (viewE_cons rfl rfl (viewE_cons rfl rfl (viewE_cons rfl rfl (viewE_cons rfl rfl (viewE_cons rfl rfl (viewE_cons rfl rfl viewE_nil)))))))) rfl rfl) ⟨i13 + 1, c132a, c143a, (acts9 ++ ([x13] : List TAct)), (model10 ++ ([(⟨x13.Kind, c89, x13.P⟩ : TAct)] : List TAct)), (by omega), rfl, (by ((try simp only [List.length_append, List.length_cons, List.length_nil, decide_eq_true_eq] at *) <;> first | omega | (rw [wrap64_of (by omega) (by omega)]; omega))), (by ((try simp only [List.length_append, List.length_cons, List.length_nil, decide_eq_true_eq] at *) <;> first | omega | (rw [wrap64_of (by omega) (by omega)]; omega))), (by omega), (by omega), hL_44, rfl⟩
      ·rw [hb57]; try simp only [hb57, cond_true, cond_false, Bool.true_and, Bool.false_and, Bool.true_or, Bool.false_or, Bool.not_true, Bool.not_false] at hL_44
       refine WK.condT rfl ?_
       refine WK.sr mixed ?_
       refine GX.q (.agg (TWorld.c w5)) ?_
       refine GX.q (.ptr 6 1) ?_
       refine GX.q (.ptr 6 1) ?_
       refine GX.q (.int .i64 x13.B.From) ?_
       refine GX.q (.ptr 6 4) ?_
       refine GX.q (.agg [.int .u32 x13.P.A, .int .i64 x13.P.N]) ?_
       generalize hc106 : F15_redist_Own w5 x13.B.From x13.P = c106 at hL_44
       have hpo0_c106 := post_i15 w5 x13.B.From x13.P (by omega); rw [hc106] at hpo0_c106
       obtain ⟨c106a, c106b⟩ := c106; try dsimp only at hL_44; try dsimp only at hpo0_c106
       refine GX.callp (r := .tup [.agg [.ro 3 (c106a.D.map TDomain.c)], .int .i64 c106b]) rfl rfl rfl (f15_ok w5 x13.B.From x13.P (by omega) _ hc106) rfl rfl ?_
       refine GX.m rfl ?_
       refine GX.q (.agg [.ro 3 (c106a.D.map TDomain.c)]) ?_
       refine GX.q (.int .i64 c106b) ?_
       refine GX.step (v' := .ptr 13 0) (heap' := [(0, .box (TWorld.c w5)), (1, .box (TWorld.c m7)), (4, .box (TWorld.c c42a)), (5, .box (TWorld.c c47a)), (6, .box (TAct.c x13)), (7, .box (TWorld.c w5)), (8, .box (TWorld.c m7)), (9, .row 6 31 (([x13] : List TAct).map TAct.c)), (10, .row 6 31 ((acts9 ++ ([x13] : List TAct)).map TAct.c)), (11, .row 6 58 (([(⟨x13.Kind, c89, x13.P⟩ : TAct)] : List TAct).map TAct.c)), (12, .row 6 58 ((model10 ++ ([(⟨x13.Kind, c89, x13.P⟩ : TAct)] : List TAct)).map TAct.c)), (13, .box [.nils])]) (next' := 14) rfl rfl rfl rfl rfl rfl rfl ?_
       refine GX.step0 (heap' := [(0, .box (TWorld.c w5)), (1, .box (TWorld.c m7)), (4, .box (TWorld.c c42a)), (5, .box (TWorld.c c47a)), (6, .box (TAct.c x13)), (7, .box (TWorld.c w5)), (8, .box (TWorld.c m7)), (9, .row 6 31 (([x13] : List TAct).map TAct.c)), (10, .row 6 31 ((acts9 ++ ([x13] : List TAct)).map TAct.c)), (11, .row 6 58 (([(⟨x13.Kind, c89, x13.P⟩ : TAct)] : List TAct).map TAct.c)), (12, .row 6 58 ((model10 ++ ([(⟨x13.Kind, c89, x13.P⟩ : TAct)] : List TAct)).map TAct.c)), (13, .box (TWorld.c c106a))]) (next' := 14) rfl rfl rfl rfl rfl ?_
       refine GX.m rfl ?_
       refine GX.done ?_
       refine WK.sr mixed ?_
       refine GX.q (.agg (TWorld.c m7)) ?_
       refine GX.q (.ptr 6 1) ?_
       refine GX.q (.ptr 6 1) ?_
       refine GX.q (.int .i64 x13.B.From) ?_
       refine GX.q (.ptr 6 4) ?_
       refine GX.q (.agg [.int .u32 x13.P.A, .int .i64 x13.P.N]) ?_
       generalize hc116 : F16_crossroadsref28_Own m7 x13.B.From x13.P = c116 at hL_44
       have hpo0_c116 := post_i16 m7 x13.B.From x13.P (by omega); rw [hc116] at hpo0_c116
       obtain ⟨c116a, c116b⟩ := c116; try dsimp only at hL_44; try dsimp only at hpo0_c116
       refine GX.callp (r := .tup [.agg [.ro 3 (c116a.D.map TDomain.c)], .int .i64 c116b]) rfl rfl rfl (f16_ok m7 x13.B.From x13.P (by omega) _ hc116) rfl rfl ?_
       refine GX.m rfl ?_
       refine GX.q (.agg [.ro 3 (c116a.D.map TDomain.c)]) ?_
       refine GX.q (.int .i64 c116b) ?_
       refine GX.step (v' := .ptr 14 0) (heap' := [(0, .box (TWorld.c w5)), (1, .box (TWorld.c m7)), (4, .box (TWorld.c c42a)), (5, .box (TWorld.c c47a)), (6, .box (TAct.c x13)), (7, .box (TWorld.c w5)), (8, .box (TWorld.c m7)), (9, .row 6 31 (([x13] : List TAct).map TAct.c)), (10, .row 6 31 ((acts9 ++ ([x13] : List TAct)).map TAct.c)), (11, .row 6 58 (([(⟨x13.Kind, c89, x13.P⟩ : TAct)] : List TAct).map TAct.c)), (12, .row 6 58 ((model10 ++ ([(⟨x13.Kind, c89, x13.P⟩ : TAct)] : List TAct)).map TAct.c)), (13, .box (TWorld.c c106a)), (14, .box [.nils])]) (next' := 15) rfl rfl rfl rfl rfl rfl rfl ?_
       refine GX.step0 (heap' := [(0, .box (TWorld.c w5)), (1, .box (TWorld.c m7)), (4, .box (TWorld.c c42a)), (5, .box (TWorld.c c47a)), (6, .box (TAct.c x13)), (7, .box (TWorld.c w5)), (8, .box (TWorld.c m7)), (9, .row 6 31 (([x13] : List TAct).map TAct.c)), (10, .row 6 31 ((acts9 ++ ([x13] : List TAct)).map TAct.c)), (11, .row 6 58 (([(⟨x13.Kind, c89, x13.P⟩ : TAct)] : List TAct).map TAct.c)), (12, .row 6 58 ((model10 ++ ([(⟨x13.Kind, c89, x13.P⟩ : TAct)] : List TAct)).map TAct.c)), (13, .box (TWorld.c c106a)), (14, .box (TWorld.c c116a))]) (next' := 15) rfl rfl rfl rfl rfl ?_
       refine GX.m rfl ?_
       refine GX.done ?_
       refine WK.sr mixed ?_
       refine GX.m rfl ?_
       refine GX.m rfl ?_
       refine GX.q (.bool (decide (c106b = c116b))) ?_
       refine GX.m rfl ?_
       refine GX.done ?_
       refine WK.sr mixed ?_
       refine GX.q (.agg (TWorld.c c106a)) ?_
       refine GX.step0 (heap' := [(0, .box (TWorld.c c106a)), (1, .box (TWorld.c m7)), (4, .box (TWorld.c c42a)), (5, .box (TWorld.c c47a)), (6, .box (TAct.c x13)), (7, .box (TWorld.c w5)), (8, .box (TWorld.c m7)), (9, .row 6 31 (([x13] : List TAct).map TAct.c)), (10, .row 6 31 ((acts9 ++ ([x13] : List TAct)).map TAct.c)), (11, .row 6 58 (([(⟨x13.Kind, c89, x13.P⟩ : TAct)] : List TAct).map TAct.c)), (12, .row 6 58 ((model10 ++ ([(⟨x13.Kind, c89, x13.P⟩ : TAct)] : List TAct)).map TAct.c)), (13, .box (TWorld.c c106a)), (14, .box (TWorld.c c116a))]) (next' := 15) rfl rfl rfl rfl rfl ?_
       refine GX.done ?_
       refine WK.regx mixed ?_
       refine GX.q (.agg (TWorld.c c116a)) ?_
       refine GX.step0 (heap' := [(0, .box (TWorld.c c106a)), (1, .box (TWorld.c c116a)), (4, .box (TWorld.c c42a)), (5, .box (TWorld.c c47a)), (6, .box (TAct.c x13)), (7, .box (TWorld.c w5)), (8, .box (TWorld.c m7)), (9, .row 6 31 (([x13] : List TAct).map TAct.c)), (10, .row 6 31 ((acts9 ++ ([x13] : List TAct)).map TAct.c)), (11, .row 6 58 (([(⟨x13.Kind, c89, x13.P⟩ : TAct)] : List TAct).map TAct.c)), (12, .row 6 58 ((model10 ++ ([(⟨x13.Kind, c89, x13.P⟩ : TAct)] : List TAct)).map TAct.c)), (13, .box (TWorld.c c106a)), (14, .box (TWorld.c c116a))]) (next' := 15) rfl rfl rfl rfl rfl ?_
       refine GX.done ?_
       refine WK.nil (QF.normal (hK56 _ ?_))
       refine WK.sr mixed ?_
       refine GX.q (.agg (TWorld.c c106a)) ?_
       refine GX.q (.ptr 6 1) ?_
       refine GX.q (.ptr 6 2) ?_
       refine GX.q (.int .i64 x13.B.To) ?_
       refine GX.q (.ptr 6 4) ?_
       refine GX.q (.agg [.int .u32 x13.P.A, .int .i64 x13.P.N]) ?_
       generalize hc191 : F21_redist_Has c106a x13.B.To x13.P = c191 at hL_44
       obtain ⟨c191a, c191b⟩ := c191; try dsimp only at hL_44
       refine GX.callp (r := .tup [.agg [.int .u32 c191a.P.A, .int .i64 c191a.P.N, .int .u32 c191a.Tag, .bool c191a.Marked], .bool c191b]) rfl rfl rfl (f21_ok c106a x13.B.To x13.P (by omega) _ hc191) rfl rfl ?_
       refine GX.m rfl ?_
       refine GX.q (.agg [.int .u32 c191a.P.A, .int .i64 c191a.P.N, .int .u32 c191a.Tag, .bool c191a.Marked]) ?_
       refine GX.q (.bool c191b) ?_
       refine GX.step (v' := .ptr 15 0) (heap' := [(0, .box (TWorld.c c106a)), (1, .box (TWorld.c c116a)), (4, .box (TWorld.c c42a)), (5, .box (TWorld.c c47a)), (6, .box (TAct.c x13)), (7, .box (TWorld.c w5)), (8, .box (TWorld.c m7)), (9, .row 6 31 (([x13] : List TAct).map TAct.c)), (10, .row 6 31 ((acts9 ++ ([x13] : List TAct)).map TAct.c)), (11, .row 6 58 (([(⟨x13.Kind, c89, x13.P⟩ : TAct)] : List TAct).map TAct.c)), (12, .row 6 58 ((model10 ++ ([(⟨x13.Kind, c89, x13.P⟩ : TAct)] : List TAct)).map TAct.c)), (13, .box (TWorld.c c106a)), (14, .box (TWorld.c c116a)), (15, .box [.int .u32 0, .int .i64 0, .int .u32 0, .bool false])]) (next' := 16) rfl rfl rfl rfl rfl rfl rfl ?_
       refine GX.step0 (heap' := [(0, .box (TWorld.c c106a)), (1, .box (TWorld.c c116a)), (4, .box (TWorld.c c42a)), (5, .box (TWorld.c c47a)), (6, .box (TAct.c x13)), (7, .box (TWorld.c w5)), (8, .box (TWorld.c m7)), (9, .row 6 31 (([x13] : List TAct).map TAct.c)), (10, .row 6 31 ((acts9 ++ ([x13] : List TAct)).map TAct.c)), (11, .row 6 58 (([(⟨x13.Kind, c89, x13.P⟩ : TAct)] : List TAct).map TAct.c)), (12, .row 6 58 ((model10 ++ ([(⟨x13.Kind, c89, x13.P⟩ : TAct)] : List TAct)).map TAct.c)), (13, .box (TWorld.c c106a)), (14, .box (TWorld.c c116a)), (15, .box (TExt.c c191a))]) (next' := 16) rfl rfl rfl rfl rfl ?_
       refine GX.m rfl ?_
       refine GX.done ?_
       refine WK.sr mixed ?_
       refine GX.q (.agg (TWorld.c c116a)) ?_
       refine GX.q (.ptr 6 1) ?_
       refine GX.q (.ptr 6 2) ?_
       refine GX.q (.int .i64 x13.B.To) ?_
       refine GX.q (.ptr 6 4) ?_
       refine GX.q (.agg [.int .u32 x13.P.A, .int .i64 x13.P.N]) ?_
       generalize hc201 : F22_crossroadsref28_Has c116a x13.B.To x13.P = c201 at hL_44
       obtain ⟨c201a, c201b⟩ := c201; try dsimp only at hL_44
       refine GX.callp (r := .tup [.agg [.int .u32 c201a.P.A, .int .i64 c201a.P.N, .int .u32 c201a.Tag, .bool c201a.Marked], .bool c201b]) rfl rfl rfl (f22_ok c116a x13.B.To x13.P _ hc201) rfl rfl ?_
       refine GX.m rfl ?_
       refine GX.q (.agg [.int .u32 c201a.P.A, .int .i64 c201a.P.N, .int .u32 c201a.Tag, .bool c201a.Marked]) ?_
       refine GX.q (.bool c201b) ?_
       refine GX.step (v' := .ptr 16 0) (heap' := [(0, .box (TWorld.c c106a)), (1, .box (TWorld.c c116a)), (4, .box (TWorld.c c42a)), (5, .box (TWorld.c c47a)), (6, .box (TAct.c x13)), (7, .box (TWorld.c w5)), (8, .box (TWorld.c m7)), (9, .row 6 31 (([x13] : List TAct).map TAct.c)), (10, .row 6 31 ((acts9 ++ ([x13] : List TAct)).map TAct.c)), (11, .row 6 58 (([(⟨x13.Kind, c89, x13.P⟩ : TAct)] : List TAct).map TAct.c)), (12, .row 6 58 ((model10 ++ ([(⟨x13.Kind, c89, x13.P⟩ : TAct)] : List TAct)).map TAct.c)), (13, .box (TWorld.c c106a)), (14, .box (TWorld.c c116a)), (15, .box (TExt.c c191a)), (16, .box [.int .u32 0, .int .i64 0, .int .u32 0, .bool false])]) (next' := 17) rfl rfl rfl rfl rfl rfl rfl ?_
       refine GX.step0 (heap' := [(0, .box (TWorld.c c106a)), (1, .box (TWorld.c c116a)), (4, .box (TWorld.c c42a)), (5, .box (TWorld.c c47a)), (6, .box (TAct.c x13)), (7, .box (TWorld.c w5)), (8, .box (TWorld.c m7)), (9, .row 6 31 (([x13] : List TAct).map TAct.c)), (10, .row 6 31 ((acts9 ++ ([x13] : List TAct)).map TAct.c)), (11, .row 6 58 (([(⟨x13.Kind, c89, x13.P⟩ : TAct)] : List TAct).map TAct.c)), (12, .row 6 58 ((model10 ++ ([(⟨x13.Kind, c89, x13.P⟩ : TAct)] : List TAct)).map TAct.c)), (13, .box (TWorld.c c106a)), (14, .box (TWorld.c c116a)), (15, .box (TExt.c c191a)), (16, .box (TExt.c c201a))]) (next' := 17) rfl rfl rfl rfl rfl ?_
       refine GX.m rfl ?_
       refine GX.done ?_
       refine WK.seq ?_
       refine WK.drawn mixed ?_
       refine RD.m rfl ?_
       refine RD.q (.bool (!(decide (c106b = c116b)))) ?_
       refine RD.m rfl ?_
       rcases bool_two (decide (c106b = c116b)) with hb74 | hb74
       ·rw [hb74]; try simp only [hb74, cond_true, cond_false, Bool.true_and, Bool.false_and, Bool.true_or, Bool.false_or, Bool.not_true, Bool.not_false] at hL_44
        refine RD.skip rfl rfl ?_
        refine RD.skip rfl rfl ?_
        refine RD.skip rfl rfl ?_
        refine RD.skip rfl rfl ?_
        refine RD.skip rfl rfl ?_
        refine RD.q (.bool true) ?_
        refine RD.m rfl ?_
        refine RD.skip rfl rfl ?_
        refine RD.skip rfl rfl ?_
        refine RD.skip rfl rfl ?_
        refine RD.skip rfl rfl ?_
        refine RD.skip rfl rfl ?_
        refine RD.q (.bool true) ?_
        refine RD.m rfl ?_
        refine RD.skip rfl rfl ?_
        refine RD.skip rfl rfl ?_
        refine RD.skip rfl rfl ?_
        refine RD.skip rfl rfl ?_
        refine RD.q (.bool true) ?_
        refine RD.m rfl ?_
        refine RD.skip rfl rfl ?_
        refine RD.skip rfl rfl ?_
        refine RD.skip rfl rfl ?_
        refine RD.q (.bool true) ?_
        refine RD.doneB [0, 1, 3, 7, 15, 7, 63, 127, 255, 511, 1023, 2047, 1023, 8191, 16383, 32767, 65535, 131071, 262143, 131071, 1048575, 2097151, 4194303, 8388607, 8388607, 33554431, 67108863] (by kernel_rfl) (by kernel_rfl) (by kernel_rfl) ?_
        refine WK.condT rfl ?_
        refine WK.sr mixed ?_
        refine GX.m rfl ?_
        refine GX.done ?_
        refine WK.ret ?_
        refine QF.ret ?_
        refine QF.ret (hQ_44 _ _ ?_)
        subst hL_44
        subst hR
        exact RetQ.fr [] (.inr rfl) rfl rfl rfl rfl
       ·rw [hb74]; try simp only [hb74, cond_true, cond_false, Bool.true_and, Bool.false_and, Bool.true_or, Bool.false_or, Bool.not_true, Bool.not_false] at hL_44
        refine RD.q (.agg (TWorld.c c106a)) ?_
        generalize hc208 : F13_crossroadslaw28_plain c106a = c208 at hL_44
        have hpo0_c208 := post_i13 c106a (by omega); rw [hc208] at hpo0_c208
        try dsimp only at hL_44
        refine RD.callp (r := .agg [.ro 3 (c208.D.map TDomain.c)]) rfl rfl rfl (f13_ok c106a (by omega) _ hc208) rfl rfl ?_
        refine RD.q (.agg (TWorld.c c116a)) ?_
        generalize hc210 : F12_crossroadsref28_Same c208 c116a = c210 at hL_44
        try dsimp only at hL_44
        refine RD.callp (r := .bool c210) rfl rfl rfl (f12_ok c208 c116a _ hc210) rfl rfl ?_
        refine RD.q (.bool (!c210)) ?_
        refine RD.q (.bool (!c210)) ?_
        refine RD.m rfl ?_
        rcases bool_two (c210) with hb75 | hb75
        ·rw [hb75]; try simp only [hb75, cond_true, cond_false, Bool.true_and, Bool.false_and, Bool.true_or, Bool.false_or, Bool.not_true, Bool.not_false] at hL_44
         refine RD.skip rfl rfl ?_
         refine RD.skip rfl rfl ?_
         refine RD.skip rfl rfl ?_
         refine RD.skip rfl rfl ?_
         refine RD.skip rfl rfl ?_
         refine RD.q (.bool true) ?_
         refine RD.m rfl ?_
         refine RD.skip rfl rfl ?_
         refine RD.skip rfl rfl ?_
         refine RD.skip rfl rfl ?_
         refine RD.skip rfl rfl ?_
         refine RD.q (.bool true) ?_
         refine RD.m rfl ?_
         refine RD.skip rfl rfl ?_
         refine RD.skip rfl rfl ?_
         refine RD.skip rfl rfl ?_
         refine RD.q (.bool true) ?_
         refine RD.doneB [0, 1, 3, 7, 15, 7, 63, 127, 255, 511, 1023, 2047, 1023, 8191, 16383, 32767, 65535, 131071, 262143, 131071, 1048575, 2097151, 4194303, 8388607, 8388607, 33554431, 67108863] (by kernel_rfl) (by kernel_rfl) (by kernel_rfl) ?_
         refine WK.condT rfl ?_
         refine WK.sr mixed ?_
         refine GX.m rfl ?_
         refine GX.done ?_
         refine WK.ret ?_
         refine QF.ret ?_
         refine QF.ret (hQ_44 _ _ ?_)
         subst hL_44
         subst hR
         exact RetQ.fr [] (.inr rfl) rfl rfl rfl rfl
        ·rw [hb75]; try simp only [hb75, cond_true, cond_false, Bool.true_and, Bool.false_and, Bool.true_or, Bool.false_or, Bool.not_true, Bool.not_false] at hL_44
         refine RD.q (.agg (TWorld.c w5)) ?_
         generalize hc215 : F13_crossroadslaw28_plain w5 = c215 at hL_44
         have hpo0_c215 := post_i13 w5 (by omega); rw [hc215] at hpo0_c215
         try dsimp only at hL_44
         refine RD.callp (r := .agg [.ro 3 (c215.D.map TDomain.c)]) rfl rfl rfl (f13_ok w5 (by omega) _ hc215) rfl rfl ?_
         refine RD.q (.agg (TWorld.c m7)) ?_
         generalize hc217 : F12_crossroadsref28_Same c215 m7 = c217 at hL_44
         try dsimp only at hL_44
         refine RD.callp (r := .bool c217) rfl rfl rfl (f12_ok c215 m7 _ hc217) rfl rfl ?_
         refine RD.q (.bool (!c217)) ?_
         refine RD.q (.bool (!c217)) ?_
         refine RD.m rfl ?_
         rcases bool_two (c217) with hb76 | hb76
         ·rw [hb76]; try simp only [hb76, cond_true, cond_false, Bool.true_and, Bool.false_and, Bool.true_or, Bool.false_or, Bool.not_true, Bool.not_false] at hL_44
          refine RD.skip rfl rfl ?_
          refine RD.skip rfl rfl ?_
          refine RD.skip rfl rfl ?_
          refine RD.skip rfl rfl ?_
          refine RD.q (.bool true) ?_
          refine RD.m rfl ?_
          refine RD.skip rfl rfl ?_
          refine RD.skip rfl rfl ?_
          refine RD.skip rfl rfl ?_
          refine RD.q (.bool true) ?_
          refine RD.doneB [0, 1, 3, 7, 15, 7, 63, 127, 255, 511, 1023, 2047, 1023, 8191, 16383, 32767, 65535, 131071, 262143, 131071, 1048575, 2097151, 4194303, 8388607, 8388607, 33554431, 67108863] (by kernel_rfl) (by kernel_rfl) (by kernel_rfl) ?_
          refine WK.condT rfl ?_
          refine WK.sr mixed ?_
          refine GX.m rfl ?_
          refine GX.done ?_
          refine WK.ret ?_
          refine QF.ret ?_
          refine QF.ret (hQ_44 _ _ ?_)
          subst hL_44
          subst hR
          exact RetQ.fr [] (.inr rfl) rfl rfl rfl rfl
         ·rw [hb76]; try simp only [hb76, cond_true, cond_false, Bool.true_and, Bool.false_and, Bool.true_or, Bool.false_or, Bool.not_true, Bool.not_false] at hL_44
          refine RD.q (.agg (TExt.c c191a)) ?_
          generalize hc222 : F23_crossroadslaw28_ext c191a = c222 at hL_44
          try dsimp only at hL_44
          refine RD.callp (r := .agg [.int .u32 c222.P.A, .int .i64 c222.P.N, .int .u32 c222.Tag, .bool c222.Marked]) rfl rfl rfl (f23_ok c191a _ hc222) rfl rfl ?_
          refine RD.q (.agg (TExt.c c201a)) ?_
          refine RD.q (.bool (!(decide (c222.P.A = c201a.P.A) && (decide (c222.P.N = c201a.P.N) && (decide (c222.Tag = c201a.Tag) && ((c222.Marked == c201a.Marked) && true)))))) ?_
          refine RD.q (.bool (!(decide (c222.P.A = c201a.P.A) && (decide (c222.P.N = c201a.P.N) && (decide (c222.Tag = c201a.Tag) && ((c222.Marked == c201a.Marked) && true)))))) ?_
          refine RD.m rfl ?_
          rcases bool_two (decide (c222.P.A = c201a.P.A) && (decide (c222.P.N = c201a.P.N) && (decide (c222.Tag = c201a.Tag) && ((c222.Marked == c201a.Marked) && true)))) with hb77 | hb77
          ·rw [hb77]; try simp only [hb77, cond_true, cond_false, Bool.true_and, Bool.false_and, Bool.true_or, Bool.false_or, Bool.not_true, Bool.not_false] at hL_44
           refine RD.skip rfl rfl ?_
           refine RD.skip rfl rfl ?_
           refine RD.skip rfl rfl ?_
           refine RD.q (.bool true) ?_
           refine RD.doneB [0, 1, 3, 7, 15, 7, 63, 127, 255, 511, 1023, 2047, 1023, 8191, 16383, 32767, 65535, 131071, 262143, 131071, 1048575, 2097151, 4194303, 8388607, 8388607, 33554431, 67108863] (by kernel_rfl) (by kernel_rfl) (by kernel_rfl) ?_
           refine WK.condT rfl ?_
           refine WK.sr mixed ?_
           refine GX.m rfl ?_
           refine GX.done ?_
           refine WK.ret ?_
           refine QF.ret ?_
           refine QF.ret (hQ_44 _ _ ?_)
           subst hL_44
           subst hR
           exact RetQ.fr [] (.inr rfl) rfl rfl rfl rfl
          ·rw [hb77]; try simp only [hb77, cond_true, cond_false, Bool.true_and, Bool.false_and, Bool.true_or, Bool.false_or, Bool.not_true, Bool.not_false] at hL_44
           refine RD.m rfl ?_
           refine RD.m rfl ?_
           refine RD.q (.bool (!(c191b == c201b))) ?_
           refine RD.q (.bool (!(c191b == c201b))) ?_
           refine RD.doneB [0, 1, 3, 7, 15, 7, 63, 127, 255, 511, 1023, 2047, 1023, 8191, 16383, 32767, 65535, 131071, 262143, 131071, 1048575, 2097151, 4194303, 8388607, 8388607, 33554431, 67108863] (by kernel_rfl) (by kernel_rfl) (by kernel_rfl) ?_
           rcases bool_two (c191b == c201b) with hb78 | hb78
           ·rw [hb78]; try simp only [hb78, cond_true, cond_false, Bool.true_and, Bool.false_and, Bool.true_or, Bool.false_or, Bool.not_true, Bool.not_false] at hL_44
            refine WK.condT rfl ?_
            refine WK.sr mixed ?_
            refine GX.m rfl ?_
            refine GX.done ?_
            refine WK.ret ?_
            refine QF.ret ?_
            refine QF.ret (hQ_44 _ _ ?_)
            subst hL_44
            subst hR
            exact RetQ.fr [] (.inr rfl) rfl rfl rfl rfl
           ·rw [hb78]; try simp only [hb78, cond_true, cond_false, Bool.true_and, Bool.false_and, Bool.true_or, Bool.false_or, Bool.not_true, Bool.not_false] at hL_44
            refine WK.condF rfl ?_
            refine WK.skip ?_
            refine WK.nil (QF.normal (hK55 _ ?_))
            refine WK.regx mixed ?_
            refine GX.m rfl ?_
            refine GX.pure (v' := .int .i64 ((i13 + 1 : Nat) : Int)) rfl rfl rfl rfl (congrArg (PVal.int .i64) (wrap_up hlt44 hlen_44)) ?_
            refine GX.m rfl ?_
            refine GX.done ?_
            refine WK.nil (QF.normal ?_)
            exact hagain_44 _ (script1.length - (i13 + 1)) ⟨[(1, .ro 6 (script1.map TAct.c)), (5, .ptr 0 0), (7, .ptr 1 0), (9, .own 2 6 0 (acts9 ++ ([x13] : List TAct)).length), (10, .own 3 6 0 (model10 ++ ([(⟨x13.Kind, c89, x13.P⟩ : TAct)] : List TAct)).length), (11, .ptr 4 0), (12, .ptr 5 0), (13, .int .i64 ((i13 + 1) : Int))], [(0, .box (TWorld.c c106a)), (1, .box (TWorld.c c116a)), (2, .row 6 31 ((acts9 ++ ([x13] : List TAct)).map TAct.c)), (3, .row 6 58 ((model10 ++ ([(⟨x13.Kind, c89, x13.P⟩ : TAct)] : List TAct)).map TAct.c)), (4, .box (TWorld.c c42a)), (5, .box (TWorld.c c47a))], 6⟩ (by omega) (Conv.keep [0, 1, 10, 12, 4, 5] [] [1, 5, 7, 9, 10, 11, 12, 13] rfl rfl (viewE_cons rfl rfl (viewE_cons rfl rfl (viewE_cons rfl rfl (viewE_cons rfl rfl (viewE_cons rfl rfl (viewE_cons rfl rfl (viewE_cons rfl rfl (viewE_cons rfl rfl viewE_nil)))))))) rfl rfl) ⟨i13 + 1, c106a, c116a, (acts9 ++ ([x13] : List TAct)), (model10 ++ ([(⟨x13.Kind, c89, x13.P⟩ : TAct)] : List TAct)), (by omega), rfl, (by ((try simp only [List.length_append, List.length_cons, List.length_nil, decide_eq_true_eq] at *) <;> first | omega | (rw [wrap64_of (by omega) (by omega)]; omega))), (by ((try simp only [List.length_append, List.length_cons, List.length_nil, decide_eq_true_eq] at *) <;> first | omega | (rw [wrap64_of (by omega) (by omega)]; omega))), (by omega), (by omega), hL_44, rfl⟩
 ·rw [hb1]; try simp only [hb1, cond_true, cond_false, Bool.true_and, Bool.false_and, Bool.true_or, Bool.false_or, Bool.not_true, Bool.not_false] at hR
  refine WK.condT rfl ?_
  refine WK.sr mixed ?_
  generalize hc39 : F8_crossroadslaw28_alive = c39 at hR
  try dsimp only at hR
  refine GX.callp (r := .bool c39) rfl rfl rfl (f8_ok  _ hc39) rfl rfl ?_
  refine GX.m rfl ?_
  refine GX.done ?_
  refine WK.ret ?_
  subst hR
  exact RetQ.fr [] (.inr rfl) rfl rfl rfl rfl

end Go.Proofs.Ytlemcljcmfphcaa.Abs
