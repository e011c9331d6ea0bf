/- The functions walked: each computes its Lean function (printed by this work's own program gen.py). -/
import Derived.Test.YtlemcljcmfphcaaSz
import Derived.Test.YtlemcljcmfphcaaW1
set_option linter.unusedVariables false
set_option linter.unusedSimpArgs false
set_option maxRecDepth 10000
set_option maxHeartbeats 4000000
namespace Go.Proofs.Ytlemcljcmfphcaa.Abs
open Go

theorem f18_ok (w0 : TWorld) (b1 : TBorder) (p2 : TPrefix) (hp0 : InvW w0) (R : TWorld × Bool × Int) (hR : F18_crossroadsref28_Tell w0 b1 p2 = R) : FnOk Try.prog 18 [.agg (TWorld.c w0), .agg (TBorder.c b1), .agg (TPrefix.c p2)] [] 0 (.tup [.agg (TWorld.c R.1), .bool R.2.1, .int .i64 R.2.2]) [] 0 := by
 refine FnOk.wk i18 rfl rfl ?_
 unfold F18_crossroadsref28_Tell at hR
 change WK _ _ _ [ac18] _ ⟨[(0, .agg (TWorld.c w0)), (1, .agg (TBorder.c b1)), (2, .agg (TPrefix.c p2))], [], 0⟩
 unfold ac18
 refine WK.sr mixed ?_
 refine GX.step (v' := .ptr 0 0) (heap' := [(0, .box (TWorld.c w0))]) (next' := 1) rfl rfl rfl rfl rfl rfl rfl ?_
 refine GX.step (v' := .ptr 1 0) (heap' := [(0, .box (TWorld.c w0)), (1, .box (TBorder.c b1))]) (next' := 2) rfl rfl rfl rfl rfl rfl rfl ?_
 refine GX.step (v' := .ptr 2 0) (heap' := [(0, .box (TWorld.c w0)), (1, .box (TBorder.c b1)), (2, .box (TPrefix.c p2))]) (next' := 3) rfl rfl rfl rfl rfl rfl rfl ?_
 refine GX.step (v' := .ptr 3 0) (heap' := [(0, .box (TWorld.c w0)), (1, .box (TBorder.c b1)), (2, .box (TPrefix.c p2)), (3, .box [.nils])]) (next' := 4) rfl rfl rfl rfl rfl rfl rfl ?_
 refine GX.m rfl ?_
 refine GX.m rfl ?_
 refine GX.done ?_
 refine WK.seq ?_
 refine WK.sr mixed ?_
 refine GX.q (.ptr 1 0) ?_
 refine GX.q (.int .i64 b1.From) ?_
 refine GX.q (.bool (decide (b1.From < 0))) ?_
 refine GX.m rfl ?_
 rcases bool_two (decide (b1.From < 0)) with hb1 | hb1
 ·rw [hb1]; try simp only [hb1, cond_true, cond_false, Bool.true_and, Bool.false_and, Bool.true_or, Bool.false_or, Bool.not_true, Bool.not_false] at hR
  refine GX.q (.ptr 1 0) ?_
  refine GX.q (.int .i64 b1.From) ?_
  refine GX.q (.ptr 0 0) ?_
  refine GX.q (.ro 3 (w0.D.map TDomain.c)) ?_
  refine GX.pure (v' := .int .i64 (w0.D.length : Int)) rfl rfl rfl rfl (len_map _ _) ?_
  refine GX.q (.bool (decide ((w0.D.length : Int) ≤ b1.From))) ?_
  refine GX.q (.bool (decide ((w0.D.length : Int) ≤ b1.From))) ?_
  refine GX.m rfl ?_
  rcases bool_two (decide ((w0.D.length : Int) ≤ b1.From)) with hb2 | hb2
  ·rw [hb2]; try simp only [hb2, cond_true, cond_false, Bool.true_and, Bool.false_and, Bool.true_or, Bool.false_or, Bool.not_true, Bool.not_false] at hR
   refine GX.q (.ptr 1 1) ?_
   refine GX.q (.int .i64 b1.To) ?_
   refine GX.q (.bool (decide (b1.To < 0))) ?_
   refine GX.q (.bool (decide (b1.To < 0))) ?_
   refine GX.m rfl ?_
   rcases bool_two (decide (b1.To < 0)) with hb3 | hb3
   ·rw [hb3]; try simp only [hb3, cond_true, cond_false, Bool.true_and, Bool.false_and, Bool.true_or, Bool.false_or, Bool.not_true, Bool.not_false] at hR
    refine GX.q (.ptr 1 1) ?_
    refine GX.q (.int .i64 b1.To) ?_
    refine GX.q (.ptr 0 0) ?_
    refine GX.q (.ro 3 (w0.D.map TDomain.c)) ?_
    refine GX.pure (v' := .int .i64 (w0.D.length : Int)) rfl rfl rfl rfl (len_map _ _) ?_
    refine GX.q (.bool (decide ((w0.D.length : Int) ≤ b1.To))) ?_
    refine GX.q (.bool (decide ((w0.D.length : Int) ≤ b1.To))) ?_
    refine GX.m rfl ?_
    rcases bool_two (decide ((w0.D.length : Int) ≤ b1.To)) with hb4 | hb4
    ·rw [hb4]; try simp only [hb4, cond_true, cond_false, Bool.true_and, Bool.false_and, Bool.true_or, Bool.false_or, Bool.not_true, Bool.not_false] at hR
     refine GX.q (.ptr 1 0) ?_
     refine GX.q (.int .i64 b1.From) ?_
     refine GX.q (.ptr 1 1) ?_
     refine GX.q (.int .i64 b1.To) ?_
     refine GX.q (.bool (decide (b1.From = b1.To))) ?_
     refine GX.q (.bool (decide (b1.From = b1.To))) ?_
     refine GX.m rfl ?_
     rcases bool_two (decide (b1.From = b1.To)) with hb5 | hb5
     ·rw [hb5]; try simp only [hb5, cond_true, cond_false, Bool.true_and, Bool.false_and, Bool.true_or, Bool.false_or, Bool.not_true, Bool.not_false] at hR
      refine GX.q (.agg (TPrefix.c p2)) ?_
      generalize hc47 : F37_crossroadsref03_May p2 = c47 at hR
      try dsimp only at hR
      refine GX.callp (r := .bool c47) rfl rfl rfl (f37_ok p2 _ hc47) rfl rfl ?_
      refine GX.q (.bool (!c47)) ?_
      refine GX.q (.bool (!c47)) ?_
      refine GX.done ?_
      rcases bool_two (c47) with hb6 | hb6
      ·rw [hb6]; try simp only [hb6, cond_true, cond_false, Bool.true_and, Bool.false_and, Bool.true_or, Bool.false_or, Bool.not_true, Bool.not_false] at hR
       refine WK.condT rfl ?_
       refine WK.sr mixed ?_
       refine GX.q (.agg (TWorld.c w0)) ?_
       refine GX.step0 (heap' := [(0, .box (TWorld.c w0)), (1, .box (TBorder.c b1)), (2, .box (TPrefix.c p2)), (3, .box (TWorld.c w0))]) (next' := 4) rfl rfl rfl rfl rfl ?_
       refine GX.m rfl ?_
       refine GX.m rfl ?_
       refine GX.done ?_
       refine WK.ret ?_
       subst hR
       exact RetQ.fr [] (.inr rfl) rfl rfl rfl rfl
      ·rw [hb6]; try simp only [hb6, cond_true, cond_false, Bool.true_and, Bool.false_and, Bool.true_or, Bool.false_or, Bool.not_true, Bool.not_false] at hR
       refine WK.condF rfl ?_
       refine WK.skip ?_
       refine WK.sr mixed ?_
       refine GX.q (.agg (TWorld.c w0)) ?_
       refine GX.q (.ptr 1 0) ?_
       refine GX.q (.int .i64 b1.From) ?_
       refine GX.q (.agg (TPrefix.c p2)) ?_
       generalize hc56 : F22_crossroadsref28_Has w0 b1.From p2 = c56 at hR
       obtain ⟨c56a, c56b⟩ := c56; try dsimp only at hR
       refine GX.callp (r := .tup [.agg [.int .u32 c56a.P.A, .int .i64 c56a.P.N, .int .u32 c56a.Tag, .bool c56a.Marked], .bool c56b]) rfl rfl rfl (f22_ok w0 b1.From p2 _ hc56) rfl rfl ?_
       refine GX.m rfl ?_
       refine GX.q (.agg [.int .u32 c56a.P.A, .int .i64 c56a.P.N, .int .u32 c56a.Tag, .bool c56a.Marked]) ?_
       refine GX.q (.bool c56b) ?_
       refine GX.step (v' := .ptr 4 0) (heap' := [(0, .box (TWorld.c w0)), (1, .box (TBorder.c b1)), (2, .box (TPrefix.c p2)), (3, .box [.nils]), (4, .box [.int .u32 0, .int .i64 0, .int .u32 0, .bool false])]) (next' := 5) rfl rfl rfl rfl rfl rfl rfl ?_
       refine GX.step0 (heap' := [(0, .box (TWorld.c w0)), (1, .box (TBorder.c b1)), (2, .box (TPrefix.c p2)), (3, .box [.nils]), (4, .box (TExt.c c56a))]) (next' := 5) rfl rfl rfl rfl rfl ?_
       refine GX.m rfl ?_
       refine GX.done ?_
       refine WK.sr mixed ?_
       refine GX.q (.ptr 0 0) ?_
       refine GX.q (.ro 3 (w0.D.map TDomain.c)) ?_
       refine GX.q (.ptr 1 1) ?_
       refine GX.q (.int .i64 b1.To) ?_
       refine GX.idxT (c := TDomain.c) (x := (w0.D.getD b1.To.toNat default)) rfl rfl rfl (by ((try simp only [decide_eq_true_eq, decide_eq_false_iff_not, Bool.not_eq_true, Bool.not_eq_false] at *); first | omega | (rw [wrap64_of (by omega) (by omega)]; omega) | (unfold min_ max_; (repeat' split) <;> first | omega | (rw [wrap64_of (by omega) (by omega)]; omega)))) (getD_at (by ((try simp only [decide_eq_true_eq, decide_eq_false_iff_not, Bool.not_eq_true, Bool.not_eq_false] at *); first | omega | (rw [wrap64_of (by omega) (by omega)]; omega) | (unfold min_ max_; (repeat' split) <;> first | omega | (rw [wrap64_of (by omega) (by omega)]; omega))))) ?_
       refine GX.q (.agg [.int .u32 ((w0.D.getD b1.To.toNat default).Tag), .ro 2 (((w0.D.getD b1.To.toNat default).In).map TPrefix.c), .ro 4 (((w0.D.getD b1.To.toNat default).Ext).map TExt.c)]) ?_
       refine GX.step (v' := .ptr 5 0) (heap' := [(0, .box (TWorld.c w0)), (1, .box (TBorder.c b1)), (2, .box (TPrefix.c p2)), (3, .box [.nils]), (4, .box (TExt.c c56a)), (5, .box [.int .u32 0, .nils, .nils])]) (next' := 6) rfl rfl rfl rfl rfl rfl rfl ?_
       refine GX.step0 (heap' := [(0, .box (TWorld.c w0)), (1, .box (TBorder.c b1)), (2, .box (TPrefix.c p2)), (3, .box [.nils]), (4, .box (TExt.c c56a)), (5, .box [.int .u32 ((w0.D.getD b1.To.toNat default).Tag), .ro 2 (((w0.D.getD b1.To.toNat default).In).map TPrefix.c), .ro 4 (((w0.D.getD b1.To.toNat default).Ext).map TExt.c)])]) (next' := 6) rfl rfl rfl rfl rfl ?_
       refine GX.done ?_
       refine WK.seq ?_
       refine WK.sr mixed ?_
       refine GX.m rfl ?_
       refine GX.q (.bool (!c56b)) ?_
       refine GX.m rfl ?_
       rcases bool_two (c56b) with hb7 | hb7
       ·rw [hb7]; try simp only [hb7, cond_true, cond_false, Bool.true_and, Bool.false_and, Bool.true_or, Bool.false_or, Bool.not_true, Bool.not_false] at hR
        refine GX.skip rfl rfl ?_
        refine GX.skip rfl rfl ?_
        refine GX.skip rfl rfl ?_
        refine GX.skip rfl rfl ?_
        refine GX.skip rfl rfl ?_
        refine GX.q (.bool true) ?_
        refine GX.m rfl ?_
        refine GX.skip rfl rfl ?_
        refine GX.skip rfl rfl ?_
        refine GX.skip rfl rfl ?_
        refine GX.skip rfl rfl ?_
        refine GX.skip rfl rfl ?_
        refine GX.skip rfl rfl ?_
        refine GX.q (.bool true) ?_
        refine GX.m rfl ?_
        refine GX.skip rfl rfl ?_
        refine GX.skip rfl rfl ?_
        refine GX.skip rfl rfl ?_
        refine GX.q (.bool true) ?_
        refine GX.done ?_
        refine WK.condT rfl ?_
        refine WK.sr mixed ?_
        refine GX.q (.agg (TWorld.c w0)) ?_
        refine GX.step0 (heap' := [(0, .box (TWorld.c w0)), (1, .box (TBorder.c b1)), (2, .box (TPrefix.c p2)), (3, .box (TWorld.c w0)), (4, .box (TExt.c c56a)), (5, .box [.int .u32 ((w0.D.getD b1.To.toNat default).Tag), .ro 2 (((w0.D.getD b1.To.toNat default).In).map TPrefix.c), .ro 4 (((w0.D.getD b1.To.toNat default).Ext).map TExt.c)])]) (next' := 6) rfl rfl rfl rfl rfl ?_
        refine GX.m rfl ?_
        refine GX.m rfl ?_
        refine GX.done ?_
        refine WK.ret ?_
        subst hR
        exact RetQ.fr [] (.inr rfl) rfl rfl rfl rfl
       ·rw [hb7]; try simp only [hb7, cond_true, cond_false, Bool.true_and, Bool.false_and, Bool.true_or, Bool.false_or, Bool.not_true, Bool.not_false] at hR
        refine GX.q (.ptr 4 2) ?_
        refine GX.q (.int .u32 c56a.Tag) ?_
        refine GX.q (.ptr 5 0) ?_
        refine GX.q (.int .u32 ((w0.D.getD b1.To.toNat default).Tag)) ?_
        refine GX.q (.bool (decide (c56a.Tag = (w0.D.getD b1.To.toNat default).Tag))) ?_
        refine GX.q (.bool (decide (c56a.Tag = (w0.D.getD b1.To.toNat default).Tag))) ?_
        refine GX.m rfl ?_
        rcases bool_two (decide (c56a.Tag = (w0.D.getD b1.To.toNat default).Tag)) with hb8 | hb8
        ·rw [hb8]; try simp only [hb8, cond_true, cond_false, Bool.true_and, Bool.false_and, Bool.true_or, Bool.false_or, Bool.not_true, Bool.not_false] at hR
         refine GX.q (.ptr 1 2) ?_
         refine GX.q (.bool b1.Provider) ?_
         refine GX.m rfl ?_
         rcases bool_two (b1.Provider) with hb9 | hb9
         ·rw [hb9]; try simp only [hb9, cond_true, cond_false, Bool.true_and, Bool.false_and, Bool.true_or, Bool.false_or, Bool.not_true, Bool.not_false] at hR
          refine GX.skip rfl rfl ?_
          refine GX.skip rfl rfl ?_
          refine GX.q (.bool false) ?_
          refine GX.q (.bool false) ?_
          refine GX.m rfl ?_
          refine GX.q (.agg [.int .u32 ((w0.D.getD b1.To.toNat default).Tag), .ro 2 (((w0.D.getD b1.To.toNat default).In).map TPrefix.c), .ro 4 (((w0.D.getD b1.To.toNat default).Ext).map TExt.c)]) ?_
          refine GX.q (.agg (TPrefix.c p2)) ?_
          generalize hc85 : F38_crossroadsref28_owns (w0.D.getD b1.To.toNat default) p2 = c85 at hR
          try dsimp only at hR
          refine GX.callp (r := .bool c85) rfl rfl rfl (f38_ok (w0.D.getD b1.To.toNat default) p2 _ hc85) rfl rfl ?_
          refine GX.q (.bool c85) ?_
          refine GX.done ?_
          rcases bool_two (c85) with hb10 | hb10
          ·rw [hb10]; try simp only [hb10, cond_true, cond_false, Bool.true_and, Bool.false_and, Bool.true_or, Bool.false_or, Bool.not_true, Bool.not_false] at hR
           refine WK.condF rfl ?_
           refine WK.skip ?_
           refine WK.sr mixed ?_
           refine GX.q (.ptr 1 2) ?_
           refine GX.pure (v' := .bool false) rfl rfl rfl rfl (congrArg PVal.bool hb9) ?_
           refine GX.q (.ptr 4 3) ?_
           refine GX.step0 (heap' := [(0, .box (TWorld.c w0)), (1, .box (TBorder.c b1)), (2, .box (TPrefix.c p2)), (3, .box [.nils]), (4, .box [.int .u32 c56a.P.A, .int .i64 c56a.P.N, .int .u32 c56a.Tag, .bool false]), (5, .box [.int .u32 ((w0.D.getD b1.To.toNat default).Tag), .ro 2 (((w0.D.getD b1.To.toNat default).In).map TPrefix.c), .ro 4 (((w0.D.getD b1.To.toNat default).Ext).map TExt.c)])]) (next' := 6) rfl rfl rfl rfl rfl ?_
           refine GX.done ?_
           refine WK.sr mixed ?_
           refine GX.q (.agg (TWorld.c w0)) ?_
           refine GX.q (.ptr 1 1) ?_
           refine GX.q (.int .i64 b1.To) ?_
           refine GX.q (.agg (TPrefix.c p2)) ?_
           generalize hc96 : F22_crossroadsref28_Has w0 b1.To p2 = c96 at hR
           obtain ⟨c96a, c96b⟩ := c96; try dsimp only at hR
           refine GX.callp (r := .tup [.agg [.int .u32 c96a.P.A, .int .i64 c96a.P.N, .int .u32 c96a.Tag, .bool c96a.Marked], .bool c96b]) rfl rfl rfl (f22_ok w0 b1.To p2 _ hc96) rfl rfl ?_
           refine GX.m rfl ?_
           refine GX.q (.agg [.int .u32 c96a.P.A, .int .i64 c96a.P.N, .int .u32 c96a.Tag, .bool c96a.Marked]) ?_
           refine GX.q (.bool c96b) ?_
           refine GX.step (v' := .ptr 6 0) (heap' := [(0, .box (TWorld.c w0)), (1, .box (TBorder.c b1)), (2, .box (TPrefix.c p2)), (3, .box [.nils]), (4, .box [.int .u32 c56a.P.A, .int .i64 c56a.P.N, .int .u32 c56a.Tag, .bool false]), (5, .box [.int .u32 ((w0.D.getD b1.To.toNat default).Tag), .ro 2 (((w0.D.getD b1.To.toNat default).In).map TPrefix.c), .ro 4 (((w0.D.getD b1.To.toNat default).Ext).map TExt.c)]), (6, .box [.int .u32 0, .int .i64 0, .int .u32 0, .bool false])]) (next' := 7) rfl rfl rfl rfl rfl rfl rfl ?_
           refine GX.step0 (heap' := [(0, .box (TWorld.c w0)), (1, .box (TBorder.c b1)), (2, .box (TPrefix.c p2)), (3, .box [.nils]), (4, .box [.int .u32 c56a.P.A, .int .i64 c56a.P.N, .int .u32 c56a.Tag, .bool false]), (5, .box [.int .u32 ((w0.D.getD b1.To.toNat default).Tag), .ro 2 (((w0.D.getD b1.To.toNat default).In).map TPrefix.c), .ro 4 (((w0.D.getD b1.To.toNat default).Ext).map TExt.c)]), (6, .box (TExt.c c96a))]) (next' := 7) rfl rfl rfl rfl rfl ?_
           refine GX.m rfl ?_
           refine GX.done ?_
           refine WK.seq ?_
           refine WK.sr mixed ?_
           refine GX.m rfl ?_
           refine GX.q (.bool (!c96b)) ?_
           refine GX.m rfl ?_
           rcases bool_two (c96b) with hb11 | hb11
           ·rw [hb11]; try simp only [hb11, cond_true, cond_false, Bool.true_and, Bool.false_and, Bool.true_or, Bool.false_or, Bool.not_true, Bool.not_false] at hR
            refine GX.q (.ptr 5 2) ?_
            refine GX.q (.ro 4 (((w0.D.getD b1.To.toNat default).Ext).map TExt.c)) ?_
            refine GX.pure (v' := .int .i64 (((w0.D.getD b1.To.toNat default).Ext).length : Int)) rfl rfl rfl rfl (len_map _ _) ?_
            refine GX.q (.bool (decide (50 ≤ (((w0.D.getD b1.To.toNat default).Ext).length : Int)))) ?_
            refine GX.q (.bool (decide (50 ≤ (((w0.D.getD b1.To.toNat default).Ext).length : Int)))) ?_
            refine GX.done ?_
            rcases bool_two (decide (50 ≤ (((w0.D.getD b1.To.toNat default).Ext).length : Int))) with hb12 | hb12
            ·rw [hb12]; try simp only [hb12, cond_true, cond_false, Bool.true_and, Bool.false_and, Bool.true_or, Bool.false_or, Bool.not_true, Bool.not_false] at hR
             refine WK.condF rfl ?_
             refine WK.skip ?_
             refine WK.sr mixed ?_
             refine GX.q (.ptr 5 2) ?_
             refine GX.q (.ro 4 (((w0.D.getD b1.To.toNat default).Ext).map TExt.c)) ?_
             refine GX.q (.agg [.int .u32 c56a.P.A, .int .i64 c56a.P.N, .int .u32 c56a.Tag, .bool false]) ?_
             generalize hc111 : F46_crossroadsref28_into ((w0.D.getD b1.To.toNat default).Ext) (⟨c56a.P, c56a.Tag, false⟩ : TExt) = c111 at hR
             try dsimp only at hR
             refine GX.callp (r := .ro 4 (c111.map TExt.c)) rfl rfl rfl (f46_ok ((w0.D.getD b1.To.toNat default).Ext) (⟨c56a.P, c56a.Tag, false⟩ : TExt) (by ((try simp only [List.length_append, List.length_cons, List.length_nil, List.length_map, decide_eq_true_eq, decide_eq_false_iff_not] at *) <;> omega)) _ hc111) rfl rfl ?_
             refine GX.q (.ptr 5 2) ?_
             refine GX.step0 (heap' := [(0, .box (TWorld.c w0)), (1, .box (TBorder.c b1)), (2, .box (TPrefix.c p2)), (3, .box [.nils]), (4, .box [.int .u32 c56a.P.A, .int .i64 c56a.P.N, .int .u32 c56a.Tag, .bool false]), (5, .box [.int .u32 ((w0.D.getD b1.To.toNat default).Tag), .ro 2 (((w0.D.getD b1.To.toNat default).In).map TPrefix.c), .ro 4 (c111.map TExt.c)]), (6, .box (TExt.c c96a))]) (next' := 7) rfl rfl rfl rfl rfl ?_
             refine GX.done ?_
             refine WK.seq ?_
             refine WK.drawn mixed ?_
             refine RD.q (.agg (TWorld.c w0)) ?_
             refine RD.q (.ptr 1 1) ?_
             refine RD.q (.int .i64 b1.To) ?_
             refine RD.q (.agg [.int .u32 ((w0.D.getD b1.To.toNat default).Tag), .ro 2 (((w0.D.getD b1.To.toNat default).In).map TPrefix.c), .ro 4 (c111.map TExt.c)]) ?_
             generalize hc117 : F41_crossroadsref28_with w0 b1.To (⟨(w0.D.getD b1.To.toNat default).Tag, (w0.D.getD b1.To.toNat default).In, c111⟩ : TDomain) = c117 at hR
             try dsimp only at hR
             refine RD.callp (r := .agg [.ro 3 (c117.D.map TDomain.c)]) rfl rfl rfl (f41_ok w0 b1.To (⟨(w0.D.getD b1.To.toNat default).Tag, (w0.D.getD b1.To.toNat default).In, c111⟩ : TDomain) (by exact InvW.le1000 (by assumption)) (by ((try simp only [List.length_append, List.length_cons, List.length_nil, List.length_map, decide_eq_true_eq, decide_eq_false_iff_not] at *) <;> omega)) (by ((try simp only [List.length_append, List.length_cons, List.length_nil, List.length_map, decide_eq_true_eq, decide_eq_false_iff_not] at *) <;> omega)) _ hc117) rfl rfl ?_
             refine RD.m rfl ?_
             refine RD.q (.bool true) ?_
             refine RD.m rfl ?_
             refine RD.skip rfl rfl ?_
             refine RD.skip rfl rfl ?_
             refine RD.skip rfl rfl ?_
             refine RD.q (.bool true) ?_
             refine RD.step0 (heap' := [(0, .box (TWorld.c w0)), (1, .box (TBorder.c b1)), (2, .box (TPrefix.c p2)), (3, .box (TWorld.c c117)), (4, .box [.int .u32 c56a.P.A, .int .i64 c56a.P.N, .int .u32 c56a.Tag, .bool false]), (5, .box [.int .u32 ((w0.D.getD b1.To.toNat default).Tag), .ro 2 (((w0.D.getD b1.To.toNat default).In).map TPrefix.c), .ro 4 (c111.map TExt.c)]), (6, .box (TExt.c c96a))]) (next' := 7) rfl rfl rfl rfl rfl ?_
             refine RD.m rfl ?_
             refine RD.m rfl ?_
             refine RD.done rfl ?_
             refine WK.ret ?_
             subst hR
             exact RetQ.fr [] (.inr rfl) rfl rfl rfl rfl
            ·rw [hb12]; try simp only [hb12, cond_true, cond_false, Bool.true_and, Bool.false_and, Bool.true_or, Bool.false_or, Bool.not_true, Bool.not_false] at hR
             refine WK.condT rfl ?_
             refine WK.sr mixed ?_
             refine GX.q (.agg (TWorld.c w0)) ?_
             refine GX.step0 (heap' := [(0, .box (TWorld.c w0)), (1, .box (TBorder.c b1)), (2, .box (TPrefix.c p2)), (3, .box (TWorld.c w0)), (4, .box [.int .u32 c56a.P.A, .int .i64 c56a.P.N, .int .u32 c56a.Tag, .bool false]), (5, .box [.int .u32 ((w0.D.getD b1.To.toNat default).Tag), .ro 2 (((w0.D.getD b1.To.toNat default).In).map TPrefix.c), .ro 4 (((w0.D.getD b1.To.toNat default).Ext).map TExt.c)]), (6, .box (TExt.c c96a))]) (next' := 7) rfl rfl rfl rfl rfl ?_
             refine GX.m rfl ?_
             refine GX.m rfl ?_
             refine GX.done ?_
             refine WK.ret ?_
             subst hR
             exact RetQ.fr [] (.inr rfl) rfl rfl rfl rfl
           ·rw [hb11]; try simp only [hb11, cond_true, cond_false, Bool.true_and, Bool.false_and, Bool.true_or, Bool.false_or, Bool.not_true, Bool.not_false] at hR
            refine GX.skip rfl rfl ?_
            refine GX.skip rfl rfl ?_
            refine GX.skip rfl rfl ?_
            refine GX.skip rfl rfl ?_
            refine GX.q (.bool false) ?_
            refine GX.done ?_
            refine WK.condF rfl ?_
            refine WK.skip ?_
            refine WK.sr mixed ?_
            refine GX.q (.ptr 5 2) ?_
            refine GX.q (.ro 4 (((w0.D.getD b1.To.toNat default).Ext).map TExt.c)) ?_
            refine GX.q (.agg [.int .u32 c56a.P.A, .int .i64 c56a.P.N, .int .u32 c56a.Tag, .bool false]) ?_
            generalize hc111 : F46_crossroadsref28_into ((w0.D.getD b1.To.toNat default).Ext) (⟨c56a.P, c56a.Tag, false⟩ : TExt) = c111 at hR
            try dsimp only at hR
            refine GX.callp (r := .ro 4 (c111.map TExt.c)) rfl rfl rfl (f46_ok ((w0.D.getD b1.To.toNat default).Ext) (⟨c56a.P, c56a.Tag, false⟩ : TExt) (by exact InvD.le1000 (InvW.get (by assumption) _)) _ hc111) rfl rfl ?_
            refine GX.q (.ptr 5 2) ?_
            refine GX.step0 (heap' := [(0, .box (TWorld.c w0)), (1, .box (TBorder.c b1)), (2, .box (TPrefix.c p2)), (3, .box [.nils]), (4, .box [.int .u32 c56a.P.A, .int .i64 c56a.P.N, .int .u32 c56a.Tag, .bool false]), (5, .box [.int .u32 ((w0.D.getD b1.To.toNat default).Tag), .ro 2 (((w0.D.getD b1.To.toNat default).In).map TPrefix.c), .ro 4 (c111.map TExt.c)]), (6, .box (TExt.c c96a))]) (next' := 7) rfl rfl rfl rfl rfl ?_
            refine GX.done ?_
            refine WK.seq ?_
            refine WK.drawn mixed ?_
            refine RD.q (.agg (TWorld.c w0)) ?_
            refine RD.q (.ptr 1 1) ?_
            refine RD.q (.int .i64 b1.To) ?_
            refine RD.q (.agg [.int .u32 ((w0.D.getD b1.To.toNat default).Tag), .ro 2 (((w0.D.getD b1.To.toNat default).In).map TPrefix.c), .ro 4 (c111.map TExt.c)]) ?_
            generalize hc117 : F41_crossroadsref28_with w0 b1.To (⟨(w0.D.getD b1.To.toNat default).Tag, (w0.D.getD b1.To.toNat default).In, c111⟩ : TDomain) = c117 at hR
            try dsimp only at hR
            refine RD.callp (r := .agg [.ro 3 (c117.D.map TDomain.c)]) rfl rfl rfl (f41_ok w0 b1.To (⟨(w0.D.getD b1.To.toNat default).Tag, (w0.D.getD b1.To.toNat default).In, c111⟩ : TDomain) (by exact InvW.le1000 (by assumption)) (by ((try simp only [List.length_append, List.length_cons, List.length_nil, List.length_map, decide_eq_true_eq, decide_eq_false_iff_not] at *) <;> omega)) (by ((try simp only [List.length_append, List.length_cons, List.length_nil, List.length_map, decide_eq_true_eq, decide_eq_false_iff_not] at *) <;> omega)) _ hc117) rfl rfl ?_
            refine RD.m rfl ?_
            refine RD.q (.bool false) ?_
            refine RD.m rfl ?_
            refine RD.q (.agg (TExt.c c96a)) ?_
            refine RD.q (.agg [.int .u32 c56a.P.A, .int .i64 c56a.P.N, .int .u32 c56a.Tag, .bool false]) ?_
            refine RD.q (.bool (!(decide (c96a.P.A = c56a.P.A) && (decide (c96a.P.N = c56a.P.N) && (decide (c96a.Tag = c56a.Tag) && ((c96a.Marked == false) && true)))))) ?_
            refine RD.q (.bool (!(decide (c96a.P.A = c56a.P.A) && (decide (c96a.P.N = c56a.P.N) && (decide (c96a.Tag = c56a.Tag) && ((c96a.Marked == false) && true)))))) ?_
            refine RD.step0 (heap' := [(0, .box (TWorld.c w0)), (1, .box (TBorder.c b1)), (2, .box (TPrefix.c p2)), (3, .box (TWorld.c c117)), (4, .box [.int .u32 c56a.P.A, .int .i64 c56a.P.N, .int .u32 c56a.Tag, .bool false]), (5, .box [.int .u32 ((w0.D.getD b1.To.toNat default).Tag), .ro 2 (((w0.D.getD b1.To.toNat default).In).map TPrefix.c), .ro 4 (c111.map TExt.c)]), (6, .box (TExt.c c96a))]) (next' := 7) rfl rfl rfl rfl rfl ?_
            refine RD.m rfl ?_
            refine RD.m rfl ?_
            refine RD.done rfl ?_
            refine WK.ret ?_
            subst hR
            exact RetQ.fr [] (.inr rfl) rfl rfl rfl rfl
          ·rw [hb10]; try simp only [hb10, cond_true, cond_false, Bool.true_and, Bool.false_and, Bool.true_or, Bool.false_or, Bool.not_true, Bool.not_false] at hR
           refine WK.condT rfl ?_
           refine WK.sr mixed ?_
           refine GX.q (.agg (TWorld.c w0)) ?_
           refine GX.step0 (heap' := [(0, .box (TWorld.c w0)), (1, .box (TBorder.c b1)), (2, .box (TPrefix.c p2)), (3, .box (TWorld.c w0)), (4, .box (TExt.c c56a)), (5, .box [.int .u32 ((w0.D.getD b1.To.toNat default).Tag), .ro 2 (((w0.D.getD b1.To.toNat default).In).map TPrefix.c), .ro 4 (((w0.D.getD b1.To.toNat default).Ext).map TExt.c)])]) (next' := 6) rfl rfl rfl rfl rfl ?_
           refine GX.m rfl ?_
           refine GX.m rfl ?_
           refine GX.done ?_
           refine WK.ret ?_
           subst hR
           exact RetQ.fr [] (.inr rfl) rfl rfl rfl rfl
         ·rw [hb9]; try simp only [hb9, cond_true, cond_false, Bool.true_and, Bool.false_and, Bool.true_or, Bool.false_or, Bool.not_true, Bool.not_false] at hR
          refine GX.q (.ptr 4 3) ?_
          refine GX.q (.bool c56a.Marked) ?_
          refine GX.q (.bool c56a.Marked) ?_
          refine GX.q (.bool c56a.Marked) ?_
          refine GX.m rfl ?_
          rcases bool_two (c56a.Marked) with hb13 | hb13
          ·rw [hb13]; try simp only [hb13, cond_true, cond_false, Bool.true_and, Bool.false_and, Bool.true_or, Bool.false_or, Bool.not_true, Bool.not_false] at hR
           refine GX.q (.agg [.int .u32 ((w0.D.getD b1.To.toNat default).Tag), .ro 2 (((w0.D.getD b1.To.toNat default).In).map TPrefix.c), .ro 4 (((w0.D.getD b1.To.toNat default).Ext).map TExt.c)]) ?_
           refine GX.q (.agg (TPrefix.c p2)) ?_
           generalize hc85 : F38_crossroadsref28_owns (w0.D.getD b1.To.toNat default) p2 = c85 at hR
           try dsimp only at hR
           refine GX.callp (r := .bool c85) rfl rfl rfl (f38_ok (w0.D.getD b1.To.toNat default) p2 _ hc85) rfl rfl ?_
           refine GX.q (.bool c85) ?_
           refine GX.done ?_
           rcases bool_two (c85) with hb14 | hb14
           ·rw [hb14]; try simp only [hb14, cond_true, cond_false, Bool.true_and, Bool.false_and, Bool.true_or, Bool.false_or, Bool.not_true, Bool.not_false] at hR
            refine WK.condF rfl ?_
            refine WK.skip ?_
            refine WK.sr mixed ?_
            refine GX.q (.ptr 1 2) ?_
            refine GX.pure (v' := .bool true) rfl rfl rfl rfl (congrArg PVal.bool hb9) ?_
            refine GX.q (.ptr 4 3) ?_
            refine GX.step0 (heap' := [(0, .box (TWorld.c w0)), (1, .box (TBorder.c b1)), (2, .box (TPrefix.c p2)), (3, .box [.nils]), (4, .box [.int .u32 c56a.P.A, .int .i64 c56a.P.N, .int .u32 c56a.Tag, .bool true]), (5, .box [.int .u32 ((w0.D.getD b1.To.toNat default).Tag), .ro 2 (((w0.D.getD b1.To.toNat default).In).map TPrefix.c), .ro 4 (((w0.D.getD b1.To.toNat default).Ext).map TExt.c)])]) (next' := 6) rfl rfl rfl rfl rfl ?_
            refine GX.done ?_
            refine WK.sr mixed ?_
            refine GX.q (.agg (TWorld.c w0)) ?_
            refine GX.q (.ptr 1 1) ?_
            refine GX.q (.int .i64 b1.To) ?_
            refine GX.q (.agg (TPrefix.c p2)) ?_
            generalize hc96 : F22_crossroadsref28_Has w0 b1.To p2 = c96 at hR
            obtain ⟨c96a, c96b⟩ := c96; try dsimp only at hR
            refine GX.callp (r := .tup [.agg [.int .u32 c96a.P.A, .int .i64 c96a.P.N, .int .u32 c96a.Tag, .bool c96a.Marked], .bool c96b]) rfl rfl rfl (f22_ok w0 b1.To p2 _ hc96) rfl rfl ?_
            refine GX.m rfl ?_
            refine GX.q (.agg [.int .u32 c96a.P.A, .int .i64 c96a.P.N, .int .u32 c96a.Tag, .bool c96a.Marked]) ?_
            refine GX.q (.bool c96b) ?_
            refine GX.step (v' := .ptr 6 0) (heap' := [(0, .box (TWorld.c w0)), (1, .box (TBorder.c b1)), (2, .box (TPrefix.c p2)), (3, .box [.nils]), (4, .box [.int .u32 c56a.P.A, .int .i64 c56a.P.N, .int .u32 c56a.Tag, .bool true]), (5, .box [.int .u32 ((w0.D.getD b1.To.toNat default).Tag), .ro 2 (((w0.D.getD b1.To.toNat default).In).map TPrefix.c), .ro 4 (((w0.D.getD b1.To.toNat default).Ext).map TExt.c)]), (6, .box [.int .u32 0, .int .i64 0, .int .u32 0, .bool false])]) (next' := 7) rfl rfl rfl rfl rfl rfl rfl ?_
            refine GX.step0 (heap' := [(0, .box (TWorld.c w0)), (1, .box (TBorder.c b1)), (2, .box (TPrefix.c p2)), (3, .box [.nils]), (4, .box [.int .u32 c56a.P.A, .int .i64 c56a.P.N, .int .u32 c56a.Tag, .bool true]), (5, .box [.int .u32 ((w0.D.getD b1.To.toNat default).Tag), .ro 2 (((w0.D.getD b1.To.toNat default).In).map TPrefix.c), .ro 4 (((w0.D.getD b1.To.toNat default).Ext).map TExt.c)]), (6, .box (TExt.c c96a))]) (next' := 7) rfl rfl rfl rfl rfl ?_
            refine GX.m rfl ?_
            refine GX.done ?_
            refine WK.seq ?_
            refine WK.sr mixed ?_
            refine GX.m rfl ?_
            refine GX.q (.bool (!c96b)) ?_
            refine GX.m rfl ?_
            rcases bool_two (c96b) with hb15 | hb15
            ·rw [hb15]; try simp only [hb15, cond_true, cond_false, Bool.true_and, Bool.false_and, Bool.true_or, Bool.false_or, Bool.not_true, Bool.not_false] at hR
             refine GX.q (.ptr 5 2) ?_
             refine GX.q (.ro 4 (((w0.D.getD b1.To.toNat default).Ext).map TExt.c)) ?_
             refine GX.pure (v' := .int .i64 (((w0.D.getD b1.To.toNat default).Ext).length : Int)) rfl rfl rfl rfl (len_map _ _) ?_
             refine GX.q (.bool (decide (50 ≤ (((w0.D.getD b1.To.toNat default).Ext).length : Int)))) ?_
             refine GX.q (.bool (decide (50 ≤ (((w0.D.getD b1.To.toNat default).Ext).length : Int)))) ?_
             refine GX.done ?_
             rcases bool_two (decide (50 ≤ (((w0.D.getD b1.To.toNat default).Ext).length : Int))) with hb16 | hb16
             ·rw [hb16]; try simp only [hb16, cond_true, cond_false, Bool.true_and, Bool.false_and, Bool.true_or, Bool.false_or, Bool.not_true, Bool.not_false] at hR
              refine WK.condF rfl ?_
              refine WK.skip ?_
              refine WK.sr mixed ?_
              refine GX.q (.ptr 5 2) ?_
              refine GX.q (.ro 4 (((w0.D.getD b1.To.toNat default).Ext).map TExt.c)) ?_
              refine GX.q (.agg [.int .u32 c56a.P.A, .int .i64 c56a.P.N, .int .u32 c56a.Tag, .bool true]) ?_
              generalize hc111 : F46_crossroadsref28_into ((w0.D.getD b1.To.toNat default).Ext) (⟨c56a.P, c56a.Tag, true⟩ : TExt) = c111 at hR
              try dsimp only at hR
              refine GX.callp (r := .ro 4 (c111.map TExt.c)) rfl rfl rfl (f46_ok ((w0.D.getD b1.To.toNat default).Ext) (⟨c56a.P, c56a.Tag, true⟩ : TExt) (by ((try simp only [List.length_append, List.length_cons, List.length_nil, List.length_map, decide_eq_true_eq, decide_eq_false_iff_not] at *) <;> omega)) _ hc111) rfl rfl ?_
              refine GX.q (.ptr 5 2) ?_
              refine GX.step0 (heap' := [(0, .box (TWorld.c w0)), (1, .box (TBorder.c b1)), (2, .box (TPrefix.c p2)), (3, .box [.nils]), (4, .box [.int .u32 c56a.P.A, .int .i64 c56a.P.N, .int .u32 c56a.Tag, .bool true]), (5, .box [.int .u32 ((w0.D.getD b1.To.toNat default).Tag), .ro 2 (((w0.D.getD b1.To.toNat default).In).map TPrefix.c), .ro 4 (c111.map TExt.c)]), (6, .box (TExt.c c96a))]) (next' := 7) rfl rfl rfl rfl rfl ?_
              refine GX.done ?_
              refine WK.seq ?_
              refine WK.drawn mixed ?_
              refine RD.q (.agg (TWorld.c w0)) ?_
              refine RD.q (.ptr 1 1) ?_
              refine RD.q (.int .i64 b1.To) ?_
              refine RD.q (.agg [.int .u32 ((w0.D.getD b1.To.toNat default).Tag), .ro 2 (((w0.D.getD b1.To.toNat default).In).map TPrefix.c), .ro 4 (c111.map TExt.c)]) ?_
              generalize hc117 : F41_crossroadsref28_with w0 b1.To (⟨(w0.D.getD b1.To.toNat default).Tag, (w0.D.getD b1.To.toNat default).In, c111⟩ : TDomain) = c117 at hR
              try dsimp only at hR
              refine RD.callp (r := .agg [.ro 3 (c117.D.map TDomain.c)]) rfl rfl rfl (f41_ok w0 b1.To (⟨(w0.D.getD b1.To.toNat default).Tag, (w0.D.getD b1.To.toNat default).In, c111⟩ : TDomain) (by exact InvW.le1000 (by assumption)) (by ((try simp only [List.length_append, List.length_cons, List.length_nil, List.length_map, decide_eq_true_eq, decide_eq_false_iff_not] at *) <;> omega)) (by ((try simp only [List.length_append, List.length_cons, List.length_nil, List.length_map, decide_eq_true_eq, decide_eq_false_iff_not] at *) <;> omega)) _ hc117) rfl rfl ?_
              refine RD.m rfl ?_
              refine RD.q (.bool true) ?_
              refine RD.m rfl ?_
              refine RD.skip rfl rfl ?_
              refine RD.skip rfl rfl ?_
              refine RD.skip rfl rfl ?_
              refine RD.q (.bool true) ?_
              refine RD.step0 (heap' := [(0, .box (TWorld.c w0)), (1, .box (TBorder.c b1)), (2, .box (TPrefix.c p2)), (3, .box (TWorld.c c117)), (4, .box [.int .u32 c56a.P.A, .int .i64 c56a.P.N, .int .u32 c56a.Tag, .bool true]), (5, .box [.int .u32 ((w0.D.getD b1.To.toNat default).Tag), .ro 2 (((w0.D.getD b1.To.toNat default).In).map TPrefix.c), .ro 4 (c111.map TExt.c)]), (6, .box (TExt.c c96a))]) (next' := 7) rfl rfl rfl rfl rfl ?_
              refine RD.m rfl ?_
              refine RD.m rfl ?_
              refine RD.done rfl ?_
              refine WK.ret ?_
              subst hR
              exact RetQ.fr [] (.inr rfl) rfl rfl rfl rfl
             ·rw [hb16]; try simp only [hb16, cond_true, cond_false, Bool.true_and, Bool.false_and, Bool.true_or, Bool.false_or, Bool.not_true, Bool.not_false] at hR
              refine WK.condT rfl ?_
              refine WK.sr mixed ?_
              refine GX.q (.agg (TWorld.c w0)) ?_
              refine GX.step0 (heap' := [(0, .box (TWorld.c w0)), (1, .box (TBorder.c b1)), (2, .box (TPrefix.c p2)), (3, .box (TWorld.c w0)), (4, .box [.int .u32 c56a.P.A, .int .i64 c56a.P.N, .int .u32 c56a.Tag, .bool true]), (5, .box [.int .u32 ((w0.D.getD b1.To.toNat default).Tag), .ro 2 (((w0.D.getD b1.To.toNat default).In).map TPrefix.c), .ro 4 (((w0.D.getD b1.To.toNat default).Ext).map TExt.c)]), (6, .box (TExt.c c96a))]) (next' := 7) rfl rfl rfl rfl rfl ?_
              refine GX.m rfl ?_
              refine GX.m rfl ?_
              refine GX.done ?_
              refine WK.ret ?_
              subst hR
              exact RetQ.fr [] (.inr rfl) rfl rfl rfl rfl
            ·rw [hb15]; try simp only [hb15, cond_true, cond_false, Bool.true_and, Bool.false_and, Bool.true_or, Bool.false_or, Bool.not_true, Bool.not_false] at hR
             refine GX.skip rfl rfl ?_
             refine GX.skip rfl rfl ?_
             refine GX.skip rfl rfl ?_
             refine GX.skip rfl rfl ?_
             refine GX.q (.bool false) ?_
             refine GX.done ?_
             refine WK.condF rfl ?_
             refine WK.skip ?_
             refine WK.sr mixed ?_
             refine GX.q (.ptr 5 2) ?_
             refine GX.q (.ro 4 (((w0.D.getD b1.To.toNat default).Ext).map TExt.c)) ?_
             refine GX.q (.agg [.int .u32 c56a.P.A, .int .i64 c56a.P.N, .int .u32 c56a.Tag, .bool true]) ?_
             generalize hc111 : F46_crossroadsref28_into ((w0.D.getD b1.To.toNat default).Ext) (⟨c56a.P, c56a.Tag, true⟩ : TExt) = c111 at hR
             try dsimp only at hR
             refine GX.callp (r := .ro 4 (c111.map TExt.c)) rfl rfl rfl (f46_ok ((w0.D.getD b1.To.toNat default).Ext) (⟨c56a.P, c56a.Tag, true⟩ : TExt) (by exact InvD.le1000 (InvW.get (by assumption) _)) _ hc111) rfl rfl ?_
             refine GX.q (.ptr 5 2) ?_
             refine GX.step0 (heap' := [(0, .box (TWorld.c w0)), (1, .box (TBorder.c b1)), (2, .box (TPrefix.c p2)), (3, .box [.nils]), (4, .box [.int .u32 c56a.P.A, .int .i64 c56a.P.N, .int .u32 c56a.Tag, .bool true]), (5, .box [.int .u32 ((w0.D.getD b1.To.toNat default).Tag), .ro 2 (((w0.D.getD b1.To.toNat default).In).map TPrefix.c), .ro 4 (c111.map TExt.c)]), (6, .box (TExt.c c96a))]) (next' := 7) rfl rfl rfl rfl rfl ?_
             refine GX.done ?_
             refine WK.seq ?_
             refine WK.drawn mixed ?_
             refine RD.q (.agg (TWorld.c w0)) ?_
             refine RD.q (.ptr 1 1) ?_
             refine RD.q (.int .i64 b1.To) ?_
             refine RD.q (.agg [.int .u32 ((w0.D.getD b1.To.toNat default).Tag), .ro 2 (((w0.D.getD b1.To.toNat default).In).map TPrefix.c), .ro 4 (c111.map TExt.c)]) ?_
             generalize hc117 : F41_crossroadsref28_with w0 b1.To (⟨(w0.D.getD b1.To.toNat default).Tag, (w0.D.getD b1.To.toNat default).In, c111⟩ : TDomain) = c117 at hR
             try dsimp only at hR
             refine RD.callp (r := .agg [.ro 3 (c117.D.map TDomain.c)]) rfl rfl rfl (f41_ok w0 b1.To (⟨(w0.D.getD b1.To.toNat default).Tag, (w0.D.getD b1.To.toNat default).In, c111⟩ : TDomain) (by exact InvW.le1000 (by assumption)) (by ((try simp only [List.length_append, List.length_cons, List.length_nil, List.length_map, decide_eq_true_eq, decide_eq_false_iff_not] at *) <;> omega)) (by ((try simp only [List.length_append, List.length_cons, List.length_nil, List.length_map, decide_eq_true_eq, decide_eq_false_iff_not] at *) <;> omega)) _ hc117) rfl rfl ?_
             refine RD.m rfl ?_
             refine RD.q (.bool false) ?_
             refine RD.m rfl ?_
             refine RD.q (.agg (TExt.c c96a)) ?_
             refine RD.q (.agg [.int .u32 c56a.P.A, .int .i64 c56a.P.N, .int .u32 c56a.Tag, .bool true]) ?_
             refine RD.q (.bool (!(decide (c96a.P.A = c56a.P.A) && (decide (c96a.P.N = c56a.P.N) && (decide (c96a.Tag = c56a.Tag) && ((c96a.Marked == true) && true)))))) ?_
             refine RD.q (.bool (!(decide (c96a.P.A = c56a.P.A) && (decide (c96a.P.N = c56a.P.N) && (decide (c96a.Tag = c56a.Tag) && ((c96a.Marked == true) && true)))))) ?_
             refine RD.step0 (heap' := [(0, .box (TWorld.c w0)), (1, .box (TBorder.c b1)), (2, .box (TPrefix.c p2)), (3, .box (TWorld.c c117)), (4, .box [.int .u32 c56a.P.A, .int .i64 c56a.P.N, .int .u32 c56a.Tag, .bool true]), (5, .box [.int .u32 ((w0.D.getD b1.To.toNat default).Tag), .ro 2 (((w0.D.getD b1.To.toNat default).In).map TPrefix.c), .ro 4 (c111.map TExt.c)]), (6, .box (TExt.c c96a))]) (next' := 7) rfl rfl rfl rfl rfl ?_
             refine RD.m rfl ?_
             refine RD.m rfl ?_
             refine RD.done rfl ?_
             refine WK.ret ?_
             subst hR
             exact RetQ.fr [] (.inr rfl) rfl rfl rfl rfl
           ·rw [hb14]; try simp only [hb14, cond_true, cond_false, Bool.true_and, Bool.false_and, Bool.true_or, Bool.false_or, Bool.not_true, Bool.not_false] at hR
            refine WK.condT rfl ?_
            refine WK.sr mixed ?_
            refine GX.q (.agg (TWorld.c w0)) ?_
            refine GX.step0 (heap' := [(0, .box (TWorld.c w0)), (1, .box (TBorder.c b1)), (2, .box (TPrefix.c p2)), (3, .box (TWorld.c w0)), (4, .box (TExt.c c56a)), (5, .box [.int .u32 ((w0.D.getD b1.To.toNat default).Tag), .ro 2 (((w0.D.getD b1.To.toNat default).In).map TPrefix.c), .ro 4 (((w0.D.getD b1.To.toNat default).Ext).map TExt.c)])]) (next' := 6) rfl rfl rfl rfl rfl ?_
            refine GX.m rfl ?_
            refine GX.m rfl ?_
            refine GX.done ?_
            refine WK.ret ?_
            subst hR
            exact RetQ.fr [] (.inr rfl) rfl rfl rfl rfl
          ·rw [hb13]; try simp only [hb13, cond_true, cond_false, Bool.true_and, Bool.false_and, Bool.true_or, Bool.false_or, Bool.not_true, Bool.not_false] at hR
           refine GX.skip rfl rfl ?_
           refine GX.skip rfl rfl ?_
           refine GX.skip rfl rfl ?_
           refine GX.q (.bool true) ?_
           refine GX.done ?_
           refine WK.condT rfl ?_
           refine WK.sr mixed ?_
           refine GX.q (.agg (TWorld.c w0)) ?_
           refine GX.step0 (heap' := [(0, .box (TWorld.c w0)), (1, .box (TBorder.c b1)), (2, .box (TPrefix.c p2)), (3, .box (TWorld.c w0)), (4, .box (TExt.c c56a)), (5, .box [.int .u32 ((w0.D.getD b1.To.toNat default).Tag), .ro 2 (((w0.D.getD b1.To.toNat default).In).map TPrefix.c), .ro 4 (((w0.D.getD b1.To.toNat default).Ext).map TExt.c)])]) (next' := 6) rfl rfl rfl rfl rfl ?_
           refine GX.m rfl ?_
           refine GX.m rfl ?_
           refine GX.done ?_
           refine WK.ret ?_
           subst hR
           exact RetQ.fr [] (.inr rfl) rfl rfl rfl rfl
        ·rw [hb8]; try simp only [hb8, cond_true, cond_false, Bool.true_and, Bool.false_and, Bool.true_or, Bool.false_or, Bool.not_true, Bool.not_false] at hR
         refine GX.skip rfl rfl ?_
         refine GX.skip rfl rfl ?_
         refine GX.skip rfl rfl ?_
         refine GX.skip rfl rfl ?_
         refine GX.skip rfl rfl ?_
         refine GX.skip rfl rfl ?_
         refine GX.q (.bool true) ?_
         refine GX.m rfl ?_
         refine GX.skip rfl rfl ?_
         refine GX.skip rfl rfl ?_
         refine GX.skip rfl rfl ?_
         refine GX.q (.bool true) ?_
         refine GX.done ?_
         refine WK.condT rfl ?_
         refine WK.sr mixed ?_
         refine GX.q (.agg (TWorld.c w0)) ?_
         refine GX.step0 (heap' := [(0, .box (TWorld.c w0)), (1, .box (TBorder.c b1)), (2, .box (TPrefix.c p2)), (3, .box (TWorld.c w0)), (4, .box (TExt.c c56a)), (5, .box [.int .u32 ((w0.D.getD b1.To.toNat default).Tag), .ro 2 (((w0.D.getD b1.To.toNat default).In).map TPrefix.c), .ro 4 (((w0.D.getD b1.To.toNat default).Ext).map TExt.c)])]) (next' := 6) rfl rfl rfl rfl rfl ?_
         refine GX.m rfl ?_
         refine GX.m rfl ?_
         refine GX.done ?_
         refine WK.ret ?_
         subst hR
         exact RetQ.fr [] (.inr rfl) rfl rfl rfl rfl
     ·rw [hb5]; try simp only [hb5, cond_true, cond_false, Bool.true_and, Bool.false_and, Bool.true_or, Bool.false_or, Bool.not_true, Bool.not_false] at hR
      refine GX.skip rfl rfl ?_
      refine GX.skip rfl rfl ?_
      refine GX.skip rfl rfl ?_
      refine GX.q (.bool true) ?_
      refine GX.done ?_
      refine WK.condT rfl ?_
      refine WK.sr mixed ?_
      refine GX.q (.agg (TWorld.c w0)) ?_
      refine GX.step0 (heap' := [(0, .box (TWorld.c w0)), (1, .box (TBorder.c b1)), (2, .box (TPrefix.c p2)), (3, .box (TWorld.c w0))]) (next' := 4) rfl rfl rfl rfl rfl ?_
      refine GX.m rfl ?_
      refine GX.m rfl ?_
      refine GX.done ?_
      refine WK.ret ?_
      subst hR
      exact RetQ.fr [] (.inr rfl) rfl rfl rfl rfl
    ·rw [hb4]; try simp only [hb4, cond_true, cond_false, Bool.true_and, Bool.false_and, Bool.true_or, Bool.false_or, Bool.not_true, Bool.not_false] at hR
     refine GX.skip rfl rfl ?_
     refine GX.skip rfl rfl ?_
     refine GX.skip rfl rfl ?_
     refine GX.skip rfl rfl ?_
     refine GX.skip rfl rfl ?_
     refine GX.q (.bool true) ?_
     refine GX.m rfl ?_
     refine GX.skip rfl rfl ?_
     refine GX.skip rfl rfl ?_
     refine GX.skip rfl rfl ?_
     refine GX.q (.bool true) ?_
     refine GX.done ?_
     refine WK.condT rfl ?_
     refine WK.sr mixed ?_
     refine GX.q (.agg (TWorld.c w0)) ?_
     refine GX.step0 (heap' := [(0, .box (TWorld.c w0)), (1, .box (TBorder.c b1)), (2, .box (TPrefix.c p2)), (3, .box (TWorld.c w0))]) (next' := 4) rfl rfl rfl rfl rfl ?_
     refine GX.m rfl ?_
     refine GX.m rfl ?_
     refine GX.done ?_
     refine WK.ret ?_
     subst hR
     exact RetQ.fr [] (.inr rfl) rfl rfl rfl rfl
   ·rw [hb3]; try simp only [hb3, cond_true, cond_false, Bool.true_and, Bool.false_and, Bool.true_or, Bool.false_or, Bool.not_true, Bool.not_false] at hR
    refine GX.skip rfl rfl ?_
    refine GX.skip rfl rfl ?_
    refine GX.skip rfl rfl ?_
    refine GX.skip rfl rfl ?_
    refine GX.skip rfl rfl ?_
    refine GX.skip rfl rfl ?_
    refine GX.q (.bool true) ?_
    refine GX.m rfl ?_
    refine GX.skip rfl rfl ?_
    refine GX.skip rfl rfl ?_
    refine GX.skip rfl rfl ?_
    refine GX.skip rfl rfl ?_
    refine GX.skip rfl rfl ?_
    refine GX.q (.bool true) ?_
    refine GX.m rfl ?_
    refine GX.skip rfl rfl ?_
    refine GX.skip rfl rfl ?_
    refine GX.skip rfl rfl ?_
    refine GX.q (.bool true) ?_
    refine GX.done ?_
    refine WK.condT rfl ?_
    refine WK.sr mixed ?_
    refine GX.q (.agg (TWorld.c w0)) ?_
    refine GX.step0 (heap' := [(0, .box (TWorld.c w0)), (1, .box (TBorder.c b1)), (2, .box (TPrefix.c p2)), (3, .box (TWorld.c w0))]) (next' := 4) rfl rfl rfl rfl rfl ?_
    refine GX.m rfl ?_
    refine GX.m rfl ?_
    refine GX.done ?_
    refine WK.ret ?_
    subst hR
    exact RetQ.fr [] (.inr rfl) rfl rfl rfl rfl
  ·rw [hb2]; try simp only [hb2, cond_true, cond_false, Bool.true_and, Bool.false_and, Bool.true_or, Bool.false_or, Bool.not_true, Bool.not_false] at hR
   refine GX.skip rfl rfl ?_
   refine GX.skip rfl rfl ?_
   refine GX.skip rfl rfl ?_
   refine GX.q (.bool true) ?_
   refine GX.m rfl ?_
   refine GX.skip rfl rfl ?_
   refine GX.skip rfl rfl ?_
   refine GX.skip rfl rfl ?_
   refine GX.skip rfl rfl ?_
   refine GX.skip rfl rfl ?_
   refine GX.skip rfl rfl ?_
   refine GX.q (.bool true) ?_
   refine GX.m rfl ?_
   refine GX.skip rfl rfl ?_
   refine GX.skip rfl rfl ?_
   refine GX.skip rfl rfl ?_
   refine GX.skip rfl rfl ?_
   refine GX.skip rfl rfl ?_
   refine GX.q (.bool true) ?_
   refine GX.m rfl ?_
   refine GX.skip rfl rfl ?_
   refine GX.skip rfl rfl ?_
   refine GX.skip rfl rfl ?_
   refine GX.q (.bool true) ?_
   refine GX.done ?_
   refine WK.condT rfl ?_
   refine WK.sr mixed ?_
   refine GX.q (.agg (TWorld.c w0)) ?_
   refine GX.step0 (heap' := [(0, .box (TWorld.c w0)), (1, .box (TBorder.c b1)), (2, .box (TPrefix.c p2)), (3, .box (TWorld.c w0))]) (next' := 4) rfl rfl rfl rfl rfl ?_
   refine GX.m rfl ?_
   refine GX.m rfl ?_
   refine GX.done ?_
   refine WK.ret ?_
   subst hR
   exact RetQ.fr [] (.inr rfl) rfl rfl rfl rfl
 ·rw [hb1]; try simp only [hb1, cond_true, cond_false, Bool.true_and, Bool.false_and, Bool.true_or, Bool.false_or, Bool.not_true, Bool.not_false] at hR
  refine GX.skip rfl rfl ?_
  refine GX.skip rfl rfl ?_
  refine GX.skip rfl rfl ?_
  refine GX.skip rfl rfl ?_
  refine GX.skip rfl rfl ?_
  refine GX.skip rfl rfl ?_
  refine GX.q (.bool true) ?_
  refine GX.m rfl ?_
  refine GX.skip rfl rfl ?_
  refine GX.skip rfl rfl ?_
  refine GX.skip rfl rfl ?_
  refine GX.q (.bool true) ?_
  refine GX.m rfl ?_
  refine GX.skip rfl rfl ?_
  refine GX.skip rfl rfl ?_
  refine GX.skip rfl rfl ?_
  refine GX.skip rfl rfl ?_
  refine GX.skip rfl rfl ?_
  refine GX.skip rfl rfl ?_
  refine GX.q (.bool true) ?_
  refine GX.m rfl ?_
  refine GX.skip rfl rfl ?_
  refine GX.skip rfl rfl ?_
  refine GX.skip rfl rfl ?_
  refine GX.skip rfl rfl ?_
  refine GX.skip rfl rfl ?_
  refine GX.q (.bool true) ?_
  refine GX.m rfl ?_
  refine GX.skip rfl rfl ?_
  refine GX.skip rfl rfl ?_
  refine GX.skip rfl rfl ?_
  refine GX.q (.bool true) ?_
  refine GX.done ?_
  refine WK.condT rfl ?_
  refine WK.sr mixed ?_
  refine GX.q (.agg (TWorld.c w0)) ?_
  refine GX.step0 (heap' := [(0, .box (TWorld.c w0)), (1, .box (TBorder.c b1)), (2, .box (TPrefix.c p2)), (3, .box (TWorld.c w0))]) (next' := 4) rfl rfl rfl rfl rfl ?_
  refine GX.m rfl ?_
  refine GX.m rfl ?_
  refine GX.done ?_
  refine WK.ret ?_
  subst hR
  exact RetQ.fr [] (.inr rfl) rfl rfl rfl rfl

theorem f65_ok (d0 : TDomain) (hp0 : InvD d0) (R : (List TPrefix)) (hR : F65_redist_Domain_tells d0 = R) : FnOk Try.prog 65 [.agg (TDomain.c d0)] [] 0 (.ro 2 (R.map TPrefix.c)) [] 0 := by
 refine FnOk.wk i65 rfl rfl ?_
 unfold F65_redist_Domain_tells at hR
 change WK _ _ _ [ac65] _ ⟨[(0, .agg (TDomain.c d0))], [], 0⟩
 unfold ac65
 refine WK.sr mixed ?_
 refine GX.step (v' := .ptr 0 0) (heap' := [(0, .box (TDomain.c d0))]) (next' := 1) rfl rfl rfl rfl rfl rfl rfl ?_
 refine GX.m rfl ?_
 refine GX.done ?_
 refine WK.sr mixed ?_
 refine GX.q (.ptr 0 1) ?_
 refine GX.q (.ro 2 (d0.In.map TPrefix.c)) ?_
 refine GX.callx (r' := .own 1 2 0 d0.In.length) (heap' := [(0, .box (TDomain.c d0)), (1, .row 2 29 (d0.In.map TPrefix.c))]) (next' := 2) [] [] rfl rfl rfl rfl rfl rfl (clone_okT (c := TPrefix.c) mixed i35 d0.In (by decide) (by exact InvD.szI (by assumption) (by decide)) (by (have h1 := InvD.nIn (by assumption); have h2 := InvD.nEx (by assumption); (try simp only [List.length_append, List.length_cons, List.length_nil] at *); omega))) (.inl rfl) rfl rfl rfl ?_
 refine GX.m rfl ?_
 refine GX.done ?_
 refine WK.seq ?_
 refine WK.sr mixed ?_
 refine GX.q (.ptr 0 2) ?_
 refine GX.q (.ro 4 (d0.Ext.map TExt.c)) ?_
 refine GX.pure (v' := .int .i64 (d0.Ext.length : Int)) rfl rfl rfl rfl (len_map _ _) ?_
 refine GX.m rfl ?_
 refine GX.done ?_
 refine WK.len (t := 10) rfl (by simp) (fun hlen_4 => ?_)
 rw [List.length_map] at hlen_4
 generalize hZ_4 : F65_redist_Domain_tells_l1 d0.In d0.Ext = Z_4 at hR
 refine WK.forK (fun k s => ∃ (i12 : Nat) (out3 : List TPrefix), i12 ≤ d0.Ext.length ∧ k = d0.Ext.length - i12 ∧ out3.length ≤ d0.In.length + i12 ∧ F65_redist_Domain_tells_l1 out3 (d0.Ext.drop i12) = Z_4 ∧ s = ⟨[(3, .own 0 2 0 out3.length), (10, .ro 4 (d0.Ext.map TExt.c)), (11, .int .i64 (d0.Ext.length : Int)), (12, .int .i64 (i12 : Int))], [(0, .row 2 29 (out3.map TPrefix.c))], 1⟩) d0.Ext.length ⟨⟨[(3, .own 0 2 0 d0.In.length), (10, .ro 4 (d0.Ext.map TExt.c)), (11, .int .i64 (d0.Ext.length : Int)), (12, .int .i64 (0 : Int))], [(0, .row 2 29 (d0.In.map TPrefix.c))], 1⟩, Conv.keep [1] [] [3, 10, 11, 12] rfl rfl (viewE_cons rfl rfl (viewE_cons rfl rfl (viewE_cons rfl rfl (viewE_cons rfl rfl viewE_nil)))) rfl rfl, 0, d0.In, (by omega), rfl, (by omega), hZ_4, rfl⟩ ?_
 rintro _ _ ⟨i12, out3, hi_4, rfl, hinv4_c0, hL_4, rfl⟩ again_4 out_4 Q_4 hagain_4 hout_4 hQ_4
 refine WK.sr mixed ?_
 refine GX.q (.bool (decide ((i12 : Int) < (d0.Ext.length : Int)))) ?_
 refine GX.done ?_
 refine WK.seq ?_
 rcases bool_two (decide ((i12 : Int) < (d0.Ext.length : Int))) with hb5 | hb5
 ·rw [hb5]
  rw [drop_end hb5, F65_redist_Domain_tells_l1] at hL_4
  refine WK.condF rfl ?_
  refine WK.exit ?_
  refine QF.exit (hout_4 _ ?_)
  subst hL_4
  try dsimp only [cond_true, cond_false] at hR
  refine WK.sr mixed ?_
  refine GX.m rfl ?_
  refine GX.m rfl ?_
  refine GX.done ?_
  refine WK.ret ?_
  subst hR
  exact RetQ.fr [0] (.inr rfl) rfl rfl (viewGo_cons (view_rowT rfl rfl) viewGo_nil) rfl
 ·rw [hb5]
  obtain ⟨x12, hx4, hd4, hlt4⟩ := drop_more hb5
  rw [hd4, F65_redist_Domain_tells_l1] at hL_4
  refine WK.condT rfl ?_
  refine WK.skip ?_
  refine WK.seq ?_
  refine WK.blockK (fun _ hK6 => ?_)
  refine WK.sr mixed ?_
  refine GX.idxT (c := TExt.c) (x := x12) rfl rfl rfl (Int.natCast_nonneg _) hx4 ?_
  refine GX.q (.agg (TExt.c x12)) ?_
  refine GX.step (v' := .ptr 1 0) (heap' := [(0, .row 2 29 (out3.map TPrefix.c)), (1, .box [.int .u32 0, .int .i64 0, .int .u32 0, .bool false])]) (next' := 2) rfl rfl rfl rfl rfl rfl rfl ?_
  refine GX.step0 (heap' := [(0, .row 2 29 (out3.map TPrefix.c)), (1, .box (TExt.c x12))]) (next' := 2) rfl rfl rfl rfl rfl ?_
  refine GX.done ?_
  refine WK.regx mixed ?_
  refine GX.m rfl ?_
  refine GX.q (.ptr 1 0) ?_
  refine GX.q (.agg [.int .u32 x12.P.A, .int .i64 x12.P.N]) ?_
  refine GX.step (v' := .own 2 2 0 (([x12.P] : List TPrefix)).length) (heap' := [(0, .row 2 29 (out3.map TPrefix.c)), (1, .box (TExt.c x12)), (2, .row 2 29 (([x12.P] : List TPrefix).map TPrefix.c))]) (next' := 3) rfl rfl rfl rfl rfl rfl rfl ?_
  refine GX.appT (c := TPrefix.c) (L := out3) (X := ([x12.P] : List TPrefix)) (heap' := [(1, .box (TExt.c x12)), (2, .row 2 29 (([x12.P] : List TPrefix).map TPrefix.c)), (3, .row 2 29 ((out3 ++ ([x12.P] : List TPrefix)).map TPrefix.c))]) (next' := 4) rfl rfl rfl rfl (elems_own rfl) (by (have h1 := InvD.nIn (by assumption); have h2 := InvD.nEx (by assumption); (try simp only [List.length_append, List.length_cons, List.length_nil] at *); omega)) (by (have h1 := InvD.nIn (by assumption); have h2 := InvD.nEx (by assumption); (try simp only [List.length_append, List.length_cons, List.length_nil] at *); omega)) rfl rfl rfl rfl ?_
  refine GX.m rfl ?_
  refine GX.done ?_
  refine WK.nil (QF.normal (hK6 _ ?_))
  refine WK.regx mixed ?_
  refine GX.pure (v' := .int .i64 ((i12 + 1 : Nat) : Int)) rfl rfl rfl rfl (congrArg (PVal.int .i64) (wrap_up hlt4 hlen_4)) ?_
  refine GX.m rfl ?_
  refine GX.done ?_
  refine WK.nil (QF.normal ?_)
  exact hagain_4 _ (d0.Ext.length - (i12 + 1)) ⟨[(3, .own 0 2 0 (out3 ++ ([x12.P] : List TPrefix)).length), (10, .ro 4 (d0.Ext.map TExt.c)), (11, .int .i64 (d0.Ext.length : Int)), (12, .int .i64 ((i12 + 1) : Int))], [(0, .row 2 29 ((out3 ++ ([x12.P] : List TPrefix)).map TPrefix.c))], 1⟩ (by omega) (Conv.keep [3] [] [3, 10, 11, 12] rfl rfl (viewE_cons rfl rfl (viewE_cons rfl rfl (viewE_cons rfl rfl (viewE_cons rfl rfl viewE_nil)))) rfl rfl) ⟨i12 + 1, (out3 ++ ([x12.P] : List TPrefix)), (by omega), rfl, (by ((try simp only [List.length_append, List.length_cons, List.length_nil, decide_eq_true_eq] at *) <;> first | omega | (rw [wrap64_of (by omega) (by omega)]; omega))), hL_4, rfl⟩

theorem f51_ok (w0 : TWorld) (l1 : List TBorder) (hp0 : InvW w0) (R : TWorld × Bool) (hR : F51_redist_once w0 l1 = R) : FnOk Try.prog 51 [.agg (TWorld.c w0), .ro 3 (l1.map TBorder.c)] [] 0 (.tup [.agg (TWorld.c R.1), .bool R.2]) [] 0 := by
 refine FnOk.wk i51 rfl rfl ?_
 unfold F51_redist_once at hR
 change WK _ _ _ [ac51] _ ⟨[(0, .agg (TWorld.c w0)), (1, .ro 3 (l1.map TBorder.c))], [], 0⟩
 unfold ac51
 refine WK.sr mixed ?_
 refine GX.step (v' := .ptr 0 0) (heap' := [(0, .box (TWorld.c w0))]) (next' := 1) rfl rfl rfl rfl rfl rfl rfl ?_
 refine GX.step (v' := .ptr 1 0) (heap' := [(0, .box (TWorld.c w0)), (1, .box [.nils])]) (next' := 2) rfl rfl rfl rfl rfl rfl rfl ?_
 refine GX.m rfl ?_
 refine GX.done ?_
 refine WK.sr mixed ?_
 refine GX.m rfl ?_
 refine GX.done ?_
 refine WK.seq ?_
 refine WK.sr mixed ?_
 refine GX.m rfl ?_
 refine GX.pure (v' := .int .i64 (l1.length : Int)) rfl rfl rfl rfl (len_map _ _) ?_
 refine GX.m rfl ?_
 refine GX.done ?_
 refine WK.len (t := 1) rfl (by simp) (fun hlen_10 => ?_)
 rw [List.length_map] at hlen_10
 generalize hZ_10 : F51_redist_once_l2 false w0 l1 = Z_10 at hR
 refine WK.forK (fun k s => ∃ (i16 : Nat) (changed6 : Bool) (w2 : TWorld), i16 ≤ l1.length ∧ k = l1.length - i16 ∧ InvW w2 ∧ F51_redist_once_l2 changed6 w2 (l1.drop i16) = Z_10 ∧ s = ⟨[(2, .ptr 0 0), (4, .ptr 1 0), (6, .bool changed6), (14, .ro 3 (l1.map TBorder.c)), (15, .int .i64 (l1.length : Int)), (16, .int .i64 (i16 : Int))], [(0, .box (TWorld.c w2)), (1, .box [.nils])], 2⟩) l1.length ⟨⟨[(2, .ptr 0 0), (4, .ptr 1 0), (6, .bool false), (14, .ro 3 (l1.map TBorder.c)), (15, .int .i64 (l1.length : Int)), (16, .int .i64 (0 : Int))], [(0, .box (TWorld.c w0)), (1, .box [.nils])], 2⟩, Conv.keep [0, 1] [] [2, 4, 6, 14, 15, 16] rfl rfl (viewE_cons rfl rfl (viewE_cons rfl rfl (viewE_cons rfl rfl (viewE_cons rfl rfl (viewE_cons rfl rfl (viewE_cons rfl rfl viewE_nil)))))) rfl rfl, 0, false, w0, (by omega), rfl, (by omega), hZ_10, rfl⟩ ?_
 rintro _ _ ⟨i16, changed6, w2, hi_10, rfl, hinv10_c0, hL_10, rfl⟩ again_10 out_10 Q_10 hagain_10 hout_10 hQ_10
 refine WK.sr mixed ?_
 refine GX.q (.bool (decide ((i16 : Int) < (l1.length : Int)))) ?_
 refine GX.done ?_
 refine WK.seq ?_
 rcases bool_two (decide ((i16 : Int) < (l1.length : Int))) with hb11 | hb11
 ·rw [hb11]
  rw [drop_end hb11, F51_redist_once_l2] at hL_10
  refine WK.condF rfl ?_
  refine WK.exit ?_
  refine QF.exit (hout_10 _ ?_)
  subst hL_10
  try dsimp only [cond_true, cond_false] at hR
  refine WK.sr mixed ?_
  refine GX.q (.agg (TWorld.c w2)) ?_
  refine GX.m rfl ?_
  refine GX.step0 (heap' := [(0, .box (TWorld.c w2)), (1, .box (TWorld.c w2))]) (next' := 2) rfl rfl rfl rfl rfl ?_
  refine GX.m rfl ?_
  refine GX.done ?_
  refine WK.ret ?_
  subst hR
  exact RetQ.fr [] (.inr rfl) rfl rfl rfl rfl
 ·rw [hb11]
  obtain ⟨x16, hx10, hd10, hlt10⟩ := drop_more hb11
  rw [hd10, F51_redist_once_l2] at hL_10
  refine WK.condT rfl ?_
  refine WK.skip ?_
  refine WK.seq ?_
  refine WK.blockK (fun _ hK12 => ?_)
  refine WK.sr mixed ?_
  refine GX.idxT (c := TBorder.c) (x := x16) rfl rfl rfl (Int.natCast_nonneg _) hx10 ?_
  refine GX.q (.agg (TBorder.c x16)) ?_
  refine GX.step (v' := .ptr 2 0) (heap' := [(0, .box (TWorld.c w2)), (1, .box [.nils]), (2, .box [.int .i64 0, .int .i64 0, .bool false])]) (next' := 3) rfl rfl rfl rfl rfl rfl rfl ?_
  refine GX.step0 (heap' := [(0, .box (TWorld.c w2)), (1, .box [.nils]), (2, .box (TBorder.c x16))]) (next' := 3) rfl rfl rfl rfl rfl ?_
  refine GX.done ?_
  refine WK.seq ?_
  refine WK.sr mixed ?_
  refine GX.q (.agg (TWorld.c w2)) ?_
  refine GX.q (.ptr 2 0) ?_
  refine GX.q (.int .i64 x16.From) ?_
  generalize hc23 : F30_redist_World_is w2 x16.From = c23 at hL_10
  have hpo0_c23 := post_is w2 x16.From; rw [hc23] at hpo0_c23
  try dsimp only at hL_10
  refine GX.callp (r := .bool c23) rfl rfl rfl (f30_ok w2 x16.From _ hc23) rfl rfl ?_
  refine GX.q (.bool (!c23)) ?_
  refine GX.done ?_
  rcases bool_two (c23) with hb13 | hb13
  ·rw [hb13]; try simp only [hb13, cond_true, cond_false, Bool.true_and, Bool.false_and, Bool.true_or, Bool.false_or, Bool.not_true, Bool.not_false] at hL_10
   refine WK.condT rfl ?_
   refine WK.exit ?_
   refine QF.exit (hK12 _ ?_)
   refine WK.regx mixed ?_
   refine GX.pure (v' := .int .i64 ((i16 + 1 : Nat) : Int)) rfl rfl rfl rfl (congrArg (PVal.int .i64) (wrap_up hlt10 hlen_10)) ?_
   refine GX.m rfl ?_
   refine GX.done ?_
   refine WK.nil (QF.normal ?_)
   exact hagain_10 _ (l1.length - (i16 + 1)) ⟨[(2, .ptr 0 0), (4, .ptr 1 0), (6, .bool changed6), (14, .ro 3 (l1.map TBorder.c)), (15, .int .i64 (l1.length : Int)), (16, .int .i64 ((i16 + 1) : Int))], [(0, .box (TWorld.c w2)), (1, .box [.nils])], 2⟩ (by omega) (Conv.keep [0, 1] [] [2, 4, 6, 14, 15, 16] rfl rfl (viewE_cons rfl rfl (viewE_cons rfl rfl (viewE_cons rfl rfl (viewE_cons rfl rfl (viewE_cons rfl rfl (viewE_cons rfl rfl viewE_nil)))))) rfl rfl) ⟨i16 + 1, changed6, w2, (by omega), rfl, (by omega), hL_10, rfl⟩
  ·rw [hb13]; try simp only [hb13, cond_true, cond_false, Bool.true_and, Bool.false_and, Bool.true_or, Bool.false_or, Bool.not_true, Bool.not_false] at hL_10
   try have hq_hpo0_c23 := hpo0_c23 hb13
   refine WK.condF rfl ?_
   refine WK.skip ?_
   refine WK.sr mixed ?_
   refine GX.q (.ptr 0 0) ?_
   refine GX.q (.ro 3 (w2.D.map TDomain.c)) ?_
   refine GX.q (.ptr 2 0) ?_
   refine GX.q (.int .i64 x16.From) ?_
   refine GX.idxT (c := TDomain.c) (x := (w2.D.getD x16.From.toNat default)) rfl rfl rfl (by omega) (getD_at (by omega)) ?_
   refine GX.q (.agg [.int .u32 ((w2.D.getD x16.From.toNat default).Tag), .ro 2 (((w2.D.getD x16.From.toNat default).In).map TPrefix.c), .ro 4 (((w2.D.getD x16.From.toNat default).Ext).map TExt.c)]) ?_
   generalize hc31 : F65_redist_Domain_tells (w2.D.getD x16.From.toNat default) = c31 at hL_10
   try dsimp only at hL_10
   refine GX.callp (r := .ro 2 (c31.map TPrefix.c)) rfl rfl rfl (f65_ok (w2.D.getD x16.From.toNat default) (by exact InvW.get (by assumption) _) _ hc31) rfl rfl ?_
   refine GX.pure (v' := .int .i64 (c31.length : Int)) rfl rfl rfl rfl (len_map _ _) ?_
   refine GX.m rfl ?_
   refine GX.done ?_
   refine WK.len (t := 31) rfl (by simp) (fun hlen_18 => ?_)
   rw [List.length_map] at hlen_18
   generalize hZ_18 : F51_redist_once_l1 x16 changed6 w2 c31 = Z_18 at hL_10
   refine WK.forK (fun k s => ∃ (i33 : Nat) (changed6x : Bool) (w2x : TWorld), i33 ≤ c31.length ∧ k = c31.length - i33 ∧ InvW w2x ∧ F51_redist_once_l1 x16 changed6x w2x (c31.drop i33) = Z_18 ∧ s = ⟨[(2, .ptr 0 0), (4, .ptr 1 0), (6, .bool changed6x), (8, .ptr 2 0), (14, .ro 3 (l1.map TBorder.c)), (15, .int .i64 (l1.length : Int)), (16, .int .i64 (i16 : Int)), (31, .ro 2 (c31.map TPrefix.c)), (32, .int .i64 (c31.length : Int)), (33, .int .i64 (i33 : Int))], [(0, .box (TWorld.c w2x)), (1, .box [.nils]), (2, .box (TBorder.c x16))], 3⟩) c31.length ⟨⟨[(2, .ptr 0 0), (4, .ptr 1 0), (6, .bool changed6), (8, .ptr 2 0), (14, .ro 3 (l1.map TBorder.c)), (15, .int .i64 (l1.length : Int)), (16, .int .i64 (i16 : Int)), (31, .ro 2 (c31.map TPrefix.c)), (32, .int .i64 (c31.length : Int)), (33, .int .i64 (0 : Int))], [(0, .box (TWorld.c w2)), (1, .box [.nils]), (2, .box (TBorder.c x16))], 3⟩, Conv.keep [0, 1, 2] [] [2, 4, 6, 8, 14, 15, 16, 31, 32, 33] rfl rfl (viewE_cons rfl rfl (viewE_cons rfl rfl (viewE_cons rfl rfl (viewE_cons rfl rfl (viewE_cons rfl rfl (viewE_cons rfl rfl (viewE_cons rfl rfl (viewE_cons rfl rfl (viewE_cons rfl rfl (viewE_cons rfl rfl viewE_nil)))))))))) rfl rfl, 0, changed6, w2, (by omega), rfl, (by omega), hZ_18, rfl⟩ ?_
   rintro _ _ ⟨i33, changed6x, w2x, hi_18, rfl, hinv18_c0, hL_18, rfl⟩ again_18 out_18 Q_18 hagain_18 hout_18 hQ_18
   refine WK.sr mixed ?_
   refine GX.q (.bool (decide ((i33 : Int) < (c31.length : Int)))) ?_
   refine GX.done ?_
   refine WK.seq ?_
   rcases bool_two (decide ((i33 : Int) < (c31.length : Int))) with hb19 | hb19
   ·rw [hb19]
    rw [drop_end hb19, F51_redist_once_l1] at hL_18
    refine WK.condF rfl ?_
    refine WK.exit ?_
    refine QF.exit (hout_18 _ ?_)
    subst hL_18
    try dsimp only [cond_true, cond_false] at hL_10
    refine WK.nil (QF.normal (hK12 _ ?_))
    refine WK.regx mixed ?_
    refine GX.pure (v' := .int .i64 ((i16 + 1 : Nat) : Int)) rfl rfl rfl rfl (congrArg (PVal.int .i64) (wrap_up hlt10 hlen_10)) ?_
    refine GX.m rfl ?_
    refine GX.done ?_
    refine WK.nil (QF.normal ?_)
    exact hagain_10 _ (l1.length - (i16 + 1)) ⟨[(2, .ptr 0 0), (4, .ptr 1 0), (6, .bool changed6x), (14, .ro 3 (l1.map TBorder.c)), (15, .int .i64 (l1.length : Int)), (16, .int .i64 ((i16 + 1) : Int))], [(0, .box (TWorld.c w2x)), (1, .box [.nils])], 2⟩ (by omega) (Conv.keep [0, 1] [] [2, 4, 6, 14, 15, 16] rfl rfl (viewE_cons rfl rfl (viewE_cons rfl rfl (viewE_cons rfl rfl (viewE_cons rfl rfl (viewE_cons rfl rfl (viewE_cons rfl rfl viewE_nil)))))) rfl rfl) ⟨i16 + 1, changed6x, w2x, (by omega), rfl, (by omega), hL_10, rfl⟩
   ·rw [hb19]
    obtain ⟨x33, hx18, hd18, hlt18⟩ := drop_more hb19
    rw [hd18, F51_redist_once_l1] at hL_18
    refine WK.condT rfl ?_
    refine WK.skip ?_
    refine WK.seq ?_
    refine WK.blockK (fun _ hK20 => ?_)
    refine WK.sr mixed ?_
    refine GX.idxT (c := TPrefix.c) (x := x33) rfl rfl rfl (Int.natCast_nonneg _) hx18 ?_
    refine GX.q (.agg (TPrefix.c x33)) ?_
    refine GX.step (v' := .ptr 3 0) (heap' := [(0, .box (TWorld.c w2x)), (1, .box [.nils]), (2, .box (TBorder.c x16)), (3, .box [.int .u32 0, .int .i64 0])]) (next' := 4) rfl rfl rfl rfl rfl rfl rfl ?_
    refine GX.step0 (heap' := [(0, .box (TWorld.c w2x)), (1, .box [.nils]), (2, .box (TBorder.c x16)), (3, .box (TPrefix.c x33))]) (next' := 4) rfl rfl rfl rfl rfl ?_
    refine GX.done ?_
    refine WK.sr mixed ?_
    refine GX.q (.agg (TWorld.c w2x)) ?_
    refine GX.q (.agg (TBorder.c x16)) ?_
    refine GX.q (.agg (TPrefix.c x33)) ?_
    generalize hc41 : F17_redist_Tell w2x x16 x33 = c41 at hL_18
    have hpo0_c41 := post_i17 w2x x16 x33 (by omega); rw [hc41] at hpo0_c41
    obtain ⟨c41a, c41b, c41c⟩ := c41; try dsimp only at hL_18; try dsimp only at hpo0_c41
    refine GX.callp (r := .tup [.agg [.ro 3 (c41a.D.map TDomain.c)], .bool c41b, .int .i64 c41c]) rfl rfl rfl (f17_ok w2x x16 x33 (by omega) _ hc41) rfl rfl ?_
    refine GX.m rfl ?_
    refine GX.q (.agg [.ro 3 (c41a.D.map TDomain.c)]) ?_
    refine GX.q (.bool c41b) ?_
    refine GX.q (.int .i64 c41c) ?_
    refine GX.step (v' := .ptr 4 0) (heap' := [(0, .box (TWorld.c w2x)), (1, .box [.nils]), (2, .box (TBorder.c x16)), (3, .box (TPrefix.c x33)), (4, .box [.nils])]) (next' := 5) rfl rfl rfl rfl rfl rfl rfl ?_
    refine GX.step0 (heap' := [(0, .box (TWorld.c w2x)), (1, .box [.nils]), (2, .box (TBorder.c x16)), (3, .box (TPrefix.c x33)), (4, .box (TWorld.c c41a))]) (next' := 5) rfl rfl rfl rfl rfl ?_
    refine GX.m rfl ?_
    refine GX.m rfl ?_
    refine GX.done ?_
    refine WK.regx mixed ?_
    refine GX.q (.agg (TWorld.c c41a)) ?_
    refine GX.m rfl ?_
    refine GX.m rfl ?_
    rcases bool_two (changed6x) with hb21 | hb21
    ·rw [hb21]; try simp only [hb21, cond_true, cond_false, Bool.true_and, Bool.false_and, Bool.true_or, Bool.false_or, Bool.not_true, Bool.not_false] at hL_18
     refine GX.m rfl ?_
     refine GX.q (.bool c41b) ?_
     refine GX.step0 (heap' := [(0, .box (TWorld.c c41a)), (1, .box [.nils]), (2, .box (TBorder.c x16)), (3, .box (TPrefix.c x33)), (4, .box (TWorld.c c41a))]) (next' := 5) rfl rfl rfl rfl rfl ?_
     refine GX.m rfl ?_
     refine GX.done ?_
     refine WK.nil (QF.normal (hK20 _ ?_))
     refine WK.regx mixed ?_
     refine GX.pure (v' := .int .i64 ((i33 + 1 : Nat) : Int)) rfl rfl rfl rfl (congrArg (PVal.int .i64) (wrap_up hlt18 hlen_18)) ?_
     refine GX.m rfl ?_
     refine GX.done ?_
     refine WK.nil (QF.normal ?_)
     exact hagain_18 _ (c31.length - (i33 + 1)) ⟨[(2, .ptr 0 0), (4, .ptr 1 0), (6, .bool c41b), (8, .ptr 2 0), (14, .ro 3 (l1.map TBorder.c)), (15, .int .i64 (l1.length : Int)), (16, .int .i64 (i16 : Int)), (31, .ro 2 (c31.map TPrefix.c)), (32, .int .i64 (c31.length : Int)), (33, .int .i64 ((i33 + 1) : Int))], [(0, .box (TWorld.c c41a)), (1, .box [.nils]), (2, .box (TBorder.c x16))], 3⟩ (by omega) (Conv.keep [0, 1, 2] [] [2, 4, 6, 8, 14, 15, 16, 31, 32, 33] rfl rfl (viewE_cons rfl rfl (viewE_cons rfl rfl (viewE_cons rfl rfl (viewE_cons rfl rfl (viewE_cons rfl rfl (viewE_cons rfl rfl (viewE_cons rfl rfl (viewE_cons rfl rfl (viewE_cons rfl rfl (viewE_cons rfl rfl viewE_nil)))))))))) rfl rfl) ⟨i33 + 1, c41b, c41a, (by omega), rfl, (by omega), hL_18, rfl⟩
    ·rw [hb21]; try simp only [hb21, cond_true, cond_false, Bool.true_and, Bool.false_and, Bool.true_or, Bool.false_or, Bool.not_true, Bool.not_false] at hL_18
     refine GX.skip rfl rfl ?_
     refine GX.q (.bool true) ?_
     refine GX.step0 (heap' := [(0, .box (TWorld.c c41a)), (1, .box [.nils]), (2, .box (TBorder.c x16)), (3, .box (TPrefix.c x33)), (4, .box (TWorld.c c41a))]) (next' := 5) rfl rfl rfl rfl rfl ?_
     refine GX.m rfl ?_
     refine GX.done ?_
     refine WK.nil (QF.normal (hK20 _ ?_))
     refine WK.regx mixed ?_
     refine GX.pure (v' := .int .i64 ((i33 + 1 : Nat) : Int)) rfl rfl rfl rfl (congrArg (PVal.int .i64) (wrap_up hlt18 hlen_18)) ?_
     refine GX.m rfl ?_
     refine GX.done ?_
     refine WK.nil (QF.normal ?_)
     exact hagain_18 _ (c31.length - (i33 + 1)) ⟨[(2, .ptr 0 0), (4, .ptr 1 0), (6, .bool true), (8, .ptr 2 0), (14, .ro 3 (l1.map TBorder.c)), (15, .int .i64 (l1.length : Int)), (16, .int .i64 (i16 : Int)), (31, .ro 2 (c31.map TPrefix.c)), (32, .int .i64 (c31.length : Int)), (33, .int .i64 ((i33 + 1) : Int))], [(0, .box (TWorld.c c41a)), (1, .box [.nils]), (2, .box (TBorder.c x16))], 3⟩ (by omega) (Conv.keep [0, 1, 2] [] [2, 4, 6, 8, 14, 15, 16, 31, 32, 33] rfl rfl (viewE_cons rfl rfl (viewE_cons rfl rfl (viewE_cons rfl rfl (viewE_cons rfl rfl (viewE_cons rfl rfl (viewE_cons rfl rfl (viewE_cons rfl rfl (viewE_cons rfl rfl (viewE_cons rfl rfl (viewE_cons rfl rfl viewE_nil)))))))))) rfl rfl) ⟨i33 + 1, true, c41a, (by omega), rfl, (by omega), hL_18, rfl⟩

theorem f27_ok (w0 : TWorld) (l1 : List TBorder) (hp0 : InvW w0) (R : TWorld × Int) (hR : F27_redist_Sweep w0 l1 = R) : FnOk Try.prog 27 [.agg (TWorld.c w0), .ro 3 (l1.map TBorder.c)] [] 0 (.tup [.agg (TWorld.c R.1), .int .i64 R.2]) [] 0 := by
 refine FnOk.wk i27 rfl rfl ?_
 unfold F27_redist_Sweep at hR
 change WK _ _ _ [ac27] _ ⟨[(0, .agg (TWorld.c w0)), (1, .ro 3 (l1.map TBorder.c))], [], 0⟩
 unfold ac27
 refine WK.sr mixed ?_
 refine GX.step (v' := .ptr 0 0) (heap' := [(0, .box (TWorld.c w0))]) (next' := 1) rfl rfl rfl rfl rfl rfl rfl ?_
 refine GX.step (v' := .ptr 1 0) (heap' := [(0, .box (TWorld.c w0)), (1, .box [.nils])]) (next' := 2) rfl rfl rfl rfl rfl rfl rfl ?_
 refine GX.m rfl ?_
 refine GX.done ?_
 refine WK.sr mixed ?_
 refine GX.m rfl ?_
 refine GX.done ?_
 refine WK.len (t := 1) rfl (by simp) (fun hln1_4 => ?_)
 rw [List.length_map] at hln1_4
 generalize hZ_4 : F27_redist_Sweep_l1 l1 ((65 - 1 : Int).toNat + 1) 1 w0 = Z_4 at hR
 refine WK.forK (fun k s => ∃ (n6 : Int) (w2 : TWorld), (65 - n6 : Int).toNat < k ∧ 1 ≤ n6 ∧ n6 ≤ 64 ∧ InvW w2 ∧ F27_redist_Sweep_l1 l1 k n6 w2 = Z_4 ∧ s = ⟨[(1, .ro 3 (l1.map TBorder.c)), (2, .ptr 0 0), (4, .ptr 1 0), (6, .int .i64 n6)], [(0, .box (TWorld.c w2)), (1, .box [.nils])], 2⟩) ((65 - 1 : Int).toNat + 1) ⟨⟨[(1, .ro 3 (l1.map TBorder.c)), (2, .ptr 0 0), (4, .ptr 1 0), (6, .int .i64 1)], [(0, .box (TWorld.c w0)), (1, .box [.nils])], 2⟩, Conv.keep [0, 1] [] [1, 2, 4, 6] rfl rfl (viewE_cons rfl rfl (viewE_cons rfl rfl (viewE_cons rfl rfl (viewE_cons rfl rfl viewE_nil)))) rfl rfl, 1, w0, Nat.lt_succ_self _, (by first | assumption | omega | ((try simp only [decide_eq_true_eq, decide_eq_false_iff_not, List.length_set] at *) <;> first | omega | (rw [mid_eq (by omega) (by omega) (by omega)]; omega) | (rw [mid_eq (by omega) (by omega) (by omega), wrap64_of (by omega) (by omega)]; omega) | (rw [wrap64_of (by omega) (by omega)]; omega))), (by first | assumption | omega | ((try simp only [decide_eq_true_eq, decide_eq_false_iff_not, List.length_set] at *) <;> first | omega | (rw [mid_eq (by omega) (by omega) (by omega)]; omega) | (rw [mid_eq (by omega) (by omega) (by omega), wrap64_of (by omega) (by omega)]; omega) | (rw [wrap64_of (by omega) (by omega)]; omega))), (by first | assumption | omega | ((try simp only [decide_eq_true_eq, decide_eq_false_iff_not, List.length_set] at *) <;> first | omega | (rw [mid_eq (by omega) (by omega) (by omega)]; omega) | (rw [mid_eq (by omega) (by omega) (by omega), wrap64_of (by omega) (by omega)]; omega) | (rw [wrap64_of (by omega) (by omega)]; omega))), hZ_4, rfl⟩ ?_
 rintro k4 _ ⟨n6, w2, hfu4, hinv4_w0, hinv4_w1, hinv4_w2, hL_4, rfl⟩ again_4 out_4 Q_4 hagain_4 hout_4 hQ_4
 obtain ⟨f4, rfl⟩ : ∃ f, k4 = f + 1 := ⟨k4 - 1, by omega⟩
 unfold F27_redist_Sweep_l1 at hL_4; try dsimp only at hL_4
 refine WK.seq ?_
 refine WK.blockK (fun _ hK5 => ?_)
 refine WK.sr mixed ?_
 refine GX.q (.agg (TWorld.c w2)) ?_
 refine GX.m rfl ?_
 generalize hc14 : F51_redist_once w2 l1 = c14 at hL_4
 have hpo0_c14 := post_i51 w2 l1 (by omega); rw [hc14] at hpo0_c14
 obtain ⟨c14a, c14b⟩ := c14; try dsimp only at hL_4; try dsimp only at hpo0_c14
 refine GX.callp (r := .tup [.agg [.ro 3 (c14a.D.map TDomain.c)], .bool c14b]) rfl rfl rfl (f51_ok w2 l1 (by omega) _ hc14) rfl rfl ?_
 refine GX.m rfl ?_
 refine GX.q (.agg [.ro 3 (c14a.D.map TDomain.c)]) ?_
 refine GX.q (.bool c14b) ?_
 refine GX.step (v' := .ptr 2 0) (heap' := [(0, .box (TWorld.c w2)), (1, .box [.nils]), (2, .box [.nils])]) (next' := 3) rfl rfl rfl rfl rfl rfl rfl ?_
 refine GX.step0 (heap' := [(0, .box (TWorld.c w2)), (1, .box [.nils]), (2, .box (TWorld.c c14a))]) (next' := 3) rfl rfl rfl rfl rfl ?_
 refine GX.m rfl ?_
 refine GX.done ?_
 refine WK.seq ?_
 refine WK.sr mixed ?_
 refine GX.m rfl ?_
 refine GX.q (.bool (!c14b)) ?_
 refine GX.m rfl ?_
 rcases bool_two (c14b) with hb6 | hb6
 ·rw [hb6]; try simp only [hb6, cond_true, cond_false, Bool.true_and, Bool.false_and, Bool.true_or, Bool.false_or, Bool.not_true, Bool.not_false] at hL_4
  refine GX.skip rfl rfl ?_
  refine GX.skip rfl rfl ?_
  refine GX.q (.bool true) ?_
  refine GX.done ?_
  refine WK.condT rfl ?_
  refine WK.sr mixed ?_
  refine GX.q (.agg (TWorld.c c14a)) ?_
  refine GX.m rfl ?_
  refine GX.step0 (heap' := [(0, .box (TWorld.c w2)), (1, .box (TWorld.c c14a)), (2, .box (TWorld.c c14a))]) (next' := 3) rfl rfl rfl rfl rfl ?_
  refine GX.m rfl ?_
  refine GX.done ?_
  refine WK.ret ?_
  refine QF.ret ?_
  refine QF.ret (hQ_4 _ _ ?_)
  subst hL_4
  subst hR
  exact RetQ.fr [] (.inr rfl) rfl rfl rfl rfl
 ·rw [hb6]; try simp only [hb6, cond_true, cond_false, Bool.true_and, Bool.false_and, Bool.true_or, Bool.false_or, Bool.not_true, Bool.not_false] at hL_4
  refine GX.m rfl ?_
  refine GX.q (.bool (decide (n6 = 64))) ?_
  refine GX.q (.bool (decide (n6 = 64))) ?_
  refine GX.done ?_
  rcases bool_two (decide (n6 = 64)) with hb7 | hb7
  ·rw [hb7]; try simp only [hb7, cond_true, cond_false, Bool.true_and, Bool.false_and, Bool.true_or, Bool.false_or, Bool.not_true, Bool.not_false] at hL_4
   refine WK.condF rfl ?_
   refine WK.skip ?_
   refine WK.regx mixed ?_
   refine GX.q (.agg (TWorld.c c14a)) ?_
   refine GX.step0 (heap' := [(0, .box (TWorld.c c14a)), (1, .box [.nils]), (2, .box (TWorld.c c14a))]) (next' := 3) rfl rfl rfl rfl rfl ?_
   refine GX.done ?_
   refine WK.nil (QF.normal (hK5 _ ?_))
   refine WK.regx mixed ?_
   refine GX.m rfl ?_
   refine GX.q (.int .i64 (IntKind.i64.wrap (n6 + 1))) ?_
   refine GX.m rfl ?_
   refine GX.done ?_
   refine WK.nil (QF.normal ?_)
   exact hagain_4 _ f4 ⟨[(1, .ro 3 (l1.map TBorder.c)), (2, .ptr 0 0), (4, .ptr 1 0), (6, .int .i64 (IntKind.i64.wrap (n6 + 1)))], [(0, .box (TWorld.c c14a)), (1, .box [.nils])], 2⟩ (Nat.lt_succ_self _) (Conv.keep [0, 1] [] [1, 2, 4, 6] rfl rfl (viewE_cons rfl rfl (viewE_cons rfl rfl (viewE_cons rfl rfl (viewE_cons rfl rfl viewE_nil)))) rfl rfl) ⟨(IntKind.i64.wrap (n6 + 1)), c14a, (by first | assumption | omega | ((try simp only [decide_eq_true_eq, decide_eq_false_iff_not, List.length_set] at *) <;> first | omega | (rw [mid_eq (by omega) (by omega) (by omega)]; omega) | (rw [mid_eq (by omega) (by omega) (by omega), wrap64_of (by omega) (by omega)]; omega) | (rw [wrap64_of (by omega) (by omega)]; omega))), (by first | assumption | omega | ((try simp only [decide_eq_true_eq, decide_eq_false_iff_not, List.length_set] at *) <;> first | omega | (rw [mid_eq (by omega) (by omega) (by omega)]; omega) | (rw [mid_eq (by omega) (by omega) (by omega), wrap64_of (by omega) (by omega)]; omega) | (rw [wrap64_of (by omega) (by omega)]; omega))), (by first | assumption | omega | ((try simp only [decide_eq_true_eq, decide_eq_false_iff_not, List.length_set] at *) <;> first | omega | (rw [mid_eq (by omega) (by omega) (by omega)]; omega) | (rw [mid_eq (by omega) (by omega) (by omega), wrap64_of (by omega) (by omega)]; omega) | (rw [wrap64_of (by omega) (by omega)]; omega))), (by first | assumption | omega | ((try simp only [decide_eq_true_eq, decide_eq_false_iff_not, List.length_set] at *) <;> first | omega | (rw [mid_eq (by omega) (by omega) (by omega)]; omega) | (rw [mid_eq (by omega) (by omega) (by omega), wrap64_of (by omega) (by omega)]; omega) | (rw [wrap64_of (by omega) (by omega)]; omega))), hL_4, rfl⟩
  ·rw [hb7]; try simp only [hb7, cond_true, cond_false, Bool.true_and, Bool.false_and, Bool.true_or, Bool.false_or, Bool.not_true, Bool.not_false] at hL_4
   refine WK.condT rfl ?_
   refine WK.sr mixed ?_
   refine GX.q (.agg (TWorld.c c14a)) ?_
   refine GX.m rfl ?_
   refine GX.step0 (heap' := [(0, .box (TWorld.c w2)), (1, .box (TWorld.c c14a)), (2, .box (TWorld.c c14a))]) (next' := 3) rfl rfl rfl rfl rfl ?_
   refine GX.m rfl ?_
   refine GX.done ?_
   refine WK.ret ?_
   refine QF.ret ?_
   refine QF.ret (hQ_4 _ _ ?_)
   subst hL_4
   subst hR
   exact RetQ.fr [] (.inr rfl) rfl rfl rfl rfl

theorem f28_ok (w0 : TWorld) (l1 : List TBorder) (hp0 : InvW w0) (R : TWorld × Int) (hR : F28_crossroadsref28_Sweep w0 l1 = R) : FnOk Try.prog 28 [.agg (TWorld.c w0), .ro 3 (l1.map TBorder.c)] [] 0 (.tup [.agg (TWorld.c R.1), .int .i64 R.2]) [] 0 := by
 refine FnOk.wk i28 rfl rfl ?_
 unfold F28_crossroadsref28_Sweep at hR
 change WK _ _ _ [ac28] _ ⟨[(0, .agg (TWorld.c w0)), (1, .ro 3 (l1.map TBorder.c))], [], 0⟩
 unfold ac28
 refine WK.sr mixed ?_
 refine GX.step (v' := .ptr 0 0) (heap' := [(0, .box (TWorld.c w0))]) (next' := 1) rfl rfl rfl rfl rfl rfl rfl ?_
 refine GX.step (v' := .ptr 1 0) (heap' := [(0, .box (TWorld.c w0)), (1, .box [.nils])]) (next' := 2) rfl rfl rfl rfl rfl rfl rfl ?_
 refine GX.m rfl ?_
 refine GX.done ?_
 refine WK.seq ?_
 refine WK.sr mixed ?_
 refine GX.m rfl ?_
 refine GX.done ?_
 refine WK.len (t := 1) rfl (by simp) (fun hln1_18 => ?_)
 rw [List.length_map] at hln1_18
 generalize hZ_18 : F28_crossroadsref28_Sweep_l4 l1 ((65 - 1 : Int).toNat + 1) 1 w0 = Z_18 at hR
 refine WK.forK (fun k s => ∃ (n6 : Int) (w2 : TWorld), (65 - n6 : Int).toNat < k ∧ 1 ≤ n6 ∧ n6 ≤ 65 ∧ InvW w2 ∧ F28_crossroadsref28_Sweep_l4 l1 k n6 w2 = Z_18 ∧ s = ⟨[(1, .ro 3 (l1.map TBorder.c)), (2, .ptr 0 0), (4, .ptr 1 0), (6, .int .i64 n6)], [(0, .box (TWorld.c w2)), (1, .box [.nils])], 2⟩) ((65 - 1 : Int).toNat + 1) ⟨⟨[(1, .ro 3 (l1.map TBorder.c)), (2, .ptr 0 0), (4, .ptr 1 0), (6, .int .i64 1)], [(0, .box (TWorld.c w0)), (1, .box [.nils])], 2⟩, Conv.keep [0, 1] [] [1, 2, 4, 6] rfl rfl (viewE_cons rfl rfl (viewE_cons rfl rfl (viewE_cons rfl rfl (viewE_cons rfl rfl viewE_nil)))) rfl rfl, 1, w0, Nat.lt_succ_self _, (by first | assumption | omega | ((try simp only [decide_eq_true_eq, decide_eq_false_iff_not, List.length_set] at *) <;> first | omega | (rw [mid_eq (by omega) (by omega) (by omega)]; omega) | (rw [mid_eq (by omega) (by omega) (by omega), wrap64_of (by omega) (by omega)]; omega) | (rw [wrap64_of (by omega) (by omega)]; omega))), (by first | assumption | omega | ((try simp only [decide_eq_true_eq, decide_eq_false_iff_not, List.length_set] at *) <;> first | omega | (rw [mid_eq (by omega) (by omega) (by omega)]; omega) | (rw [mid_eq (by omega) (by omega) (by omega), wrap64_of (by omega) (by omega)]; omega) | (rw [wrap64_of (by omega) (by omega)]; omega))), (by first | assumption | omega | ((try simp only [decide_eq_true_eq, decide_eq_false_iff_not, List.length_set] at *) <;> first | omega | (rw [mid_eq (by omega) (by omega) (by omega)]; omega) | (rw [mid_eq (by omega) (by omega) (by omega), wrap64_of (by omega) (by omega)]; omega) | (rw [wrap64_of (by omega) (by omega)]; omega))), hZ_18, rfl⟩ ?_
 rintro k18 _ ⟨n6, w2, hfu18, hinv18_w0, hinv18_w1, hinv18_w2, hL_18, rfl⟩ again_18 out_18 Q_18 hagain_18 hout_18 hQ_18
 obtain ⟨f18, rfl⟩ : ∃ f, k18 = f + 1 := ⟨k18 - 1, by omega⟩
 unfold F28_crossroadsref28_Sweep_l4 at hL_18; try dsimp only at hL_18
 refine WK.seq ?_
 refine WK.sr mixed ?_
 refine GX.m rfl ?_
 refine GX.q (.bool (decide (n6 ≤ 64))) ?_
 refine GX.done ?_
 rcases bool_two (decide (n6 ≤ 64)) with hb19 | hb19
 ·rw [hb19]; try simp only [hb19, cond_true, cond_false, Bool.true_and, Bool.false_and, Bool.true_or, Bool.false_or, Bool.not_true, Bool.not_false] at hL_18
  refine WK.condF rfl ?_
  refine WK.exit ?_
  refine QF.exit (hout_18 _ ?_)
  subst hL_18
  try dsimp only [cond_true, cond_false] at hR
  refine WK.sr mixed ?_
  refine GX.q (.agg (TWorld.c w2)) ?_
  refine GX.step0 (heap' := [(0, .box (TWorld.c w2)), (1, .box (TWorld.c w2))]) (next' := 2) rfl rfl rfl rfl rfl ?_
  refine GX.m rfl ?_
  refine GX.done ?_
  refine WK.ret ?_
  subst hR
  exact RetQ.fr [] (.inr rfl) rfl rfl rfl rfl
 ·rw [hb19]; try simp only [hb19, cond_true, cond_false, Bool.true_and, Bool.false_and, Bool.true_or, Bool.false_or, Bool.not_true, Bool.not_false] at hL_18
  refine WK.condT rfl ?_
  refine WK.skip ?_
  refine WK.seq ?_
  refine WK.blockK (fun _ hK20 => ?_)
  refine WK.sr mixed ?_
  refine GX.m rfl ?_
  refine GX.done ?_
  refine WK.seq ?_
  refine WK.sr mixed ?_
  refine GX.m rfl ?_
  refine GX.done ?_
  refine WK.len (t := 1) rfl (by simp) (fun hlen_33 => ?_)
  rw [List.length_map] at hlen_33
  generalize hZ_33 : F28_crossroadsref28_Sweep_l3 false w2 l1 = Z_33 at hL_18
  refine WK.forK (fun k s => ∃ (i8 : Nat) (changed7 : Bool) (w2x : TWorld), i8 ≤ l1.length ∧ k = l1.length - i8 ∧ InvW w2x ∧ F28_crossroadsref28_Sweep_l3 changed7 w2x (l1.drop i8) = Z_33 ∧ s = ⟨[(1, .ro 3 (l1.map TBorder.c)), (2, .ptr 0 0), (4, .ptr 1 0), (6, .int .i64 n6), (7, .bool changed7), (8, .int .i64 (i8 : Int))], [(0, .box (TWorld.c w2x)), (1, .box [.nils])], 2⟩) l1.length ⟨⟨[(1, .ro 3 (l1.map TBorder.c)), (2, .ptr 0 0), (4, .ptr 1 0), (6, .int .i64 n6), (7, .bool false), (8, .int .i64 (0 : Int))], [(0, .box (TWorld.c w2)), (1, .box [.nils])], 2⟩, Conv.keep [0, 1] [] [1, 2, 4, 6, 7, 8] rfl rfl (viewE_cons rfl rfl (viewE_cons rfl rfl (viewE_cons rfl rfl (viewE_cons rfl rfl (viewE_cons rfl rfl (viewE_cons rfl rfl viewE_nil)))))) rfl rfl, 0, false, w2, (by omega), rfl, (by omega), hZ_33, rfl⟩ ?_
  rintro _ _ ⟨i8, changed7, w2x, hi_33, rfl, hinv33_c0, hL_33, rfl⟩ again_33 out_33 Q_33 hagain_33 hout_33 hQ_33
  refine WK.seq ?_
  refine WK.sr mixed ?_
  refine GX.m rfl ?_
  refine GX.m rfl ?_
  refine GX.pure (v' := .int .i64 (l1.length : Int)) rfl rfl rfl rfl (len_map _ _) ?_
  refine GX.q (.bool (decide ((i8 : Int) < (l1.length : Int)))) ?_
  refine GX.done ?_
  rcases bool_two (decide ((i8 : Int) < (l1.length : Int))) with hb34 | hb34
  ·rw [hb34]
   rw [drop_end hb34, F28_crossroadsref28_Sweep_l3] at hL_33
   refine WK.condF rfl ?_
   refine WK.exit ?_
   refine QF.exit (hout_33 _ ?_)
   subst hL_33
   try dsimp only [cond_true, cond_false] at hL_18
   refine WK.sr mixed ?_
   refine GX.m rfl ?_
   refine GX.q (.bool (!changed7)) ?_
   refine GX.m rfl ?_
   rcases bool_two (changed7) with hb35 | hb35
   ·rw [hb35]; try simp only [hb35, cond_true, cond_false, Bool.true_and, Bool.false_and, Bool.true_or, Bool.false_or, Bool.not_true, Bool.not_false] at hL_18
    refine GX.skip rfl rfl ?_
    refine GX.skip rfl rfl ?_
    refine GX.q (.bool true) ?_
    refine GX.done ?_
    refine WK.condT rfl ?_
    refine WK.sr mixed ?_
    refine GX.q (.agg (TWorld.c w2x)) ?_
    refine GX.m rfl ?_
    refine GX.step0 (heap' := [(0, .box (TWorld.c w2x)), (1, .box (TWorld.c w2x))]) (next' := 2) rfl rfl rfl rfl rfl ?_
    refine GX.m rfl ?_
    refine GX.done ?_
    refine WK.ret ?_
    refine QF.ret ?_
    refine QF.ret (hQ_18 _ _ ?_)
    subst hL_18
    subst hR
    exact RetQ.fr [] (.inr rfl) rfl rfl rfl rfl
   ·rw [hb35]; try simp only [hb35, cond_true, cond_false, Bool.true_and, Bool.false_and, Bool.true_or, Bool.false_or, Bool.not_true, Bool.not_false] at hL_18
    refine GX.m rfl ?_
    refine GX.q (.bool (decide (n6 = 64))) ?_
    refine GX.q (.bool (decide (n6 = 64))) ?_
    refine GX.done ?_
    rcases bool_two (decide (n6 = 64)) with hb36 | hb36
    ·rw [hb36]; try simp only [hb36, cond_true, cond_false, Bool.true_and, Bool.false_and, Bool.true_or, Bool.false_or, Bool.not_true, Bool.not_false] at hL_18
     refine WK.condF rfl ?_
     refine WK.skip ?_
     refine WK.nil (QF.normal (hK20 _ ?_))
     refine WK.regx mixed ?_
     refine GX.m rfl ?_
     refine GX.q (.int .i64 (IntKind.i64.wrap (n6 + 1))) ?_
     refine GX.m rfl ?_
     refine GX.done ?_
     refine WK.nil (QF.normal ?_)
     exact hagain_18 _ f18 ⟨[(1, .ro 3 (l1.map TBorder.c)), (2, .ptr 0 0), (4, .ptr 1 0), (6, .int .i64 (IntKind.i64.wrap (n6 + 1)))], [(0, .box (TWorld.c w2x)), (1, .box [.nils])], 2⟩ (Nat.lt_succ_self _) (Conv.keep [0, 1] [] [1, 2, 4, 6] rfl rfl (viewE_cons rfl rfl (viewE_cons rfl rfl (viewE_cons rfl rfl (viewE_cons rfl rfl viewE_nil)))) rfl rfl) ⟨(IntKind.i64.wrap (n6 + 1)), w2x, (by first | assumption | omega | ((try simp only [decide_eq_true_eq, decide_eq_false_iff_not, List.length_set] at *) <;> first | omega | (rw [mid_eq (by omega) (by omega) (by omega)]; omega) | (rw [mid_eq (by omega) (by omega) (by omega), wrap64_of (by omega) (by omega)]; omega) | (rw [wrap64_of (by omega) (by omega)]; omega))), (by first | assumption | omega | ((try simp only [decide_eq_true_eq, decide_eq_false_iff_not, List.length_set] at *) <;> first | omega | (rw [mid_eq (by omega) (by omega) (by omega)]; omega) | (rw [mid_eq (by omega) (by omega) (by omega), wrap64_of (by omega) (by omega)]; omega) | (rw [wrap64_of (by omega) (by omega)]; omega))), (by first | assumption | omega | ((try simp only [decide_eq_true_eq, decide_eq_false_iff_not, List.length_set] at *) <;> first | omega | (rw [mid_eq (by omega) (by omega) (by omega)]; omega) | (rw [mid_eq (by omega) (by omega) (by omega), wrap64_of (by omega) (by omega)]; omega) | (rw [wrap64_of (by omega) (by omega)]; omega))), (by first | assumption | omega | ((try simp only [decide_eq_true_eq, decide_eq_false_iff_not, List.length_set] at *) <;> first | omega | (rw [mid_eq (by omega) (by omega) (by omega)]; omega) | (rw [mid_eq (by omega) (by omega) (by omega), wrap64_of (by omega) (by omega)]; omega) | (rw [wrap64_of (by omega) (by omega)]; omega))), hL_18, rfl⟩
    ·rw [hb36]; try simp only [hb36, cond_true, cond_false, Bool.true_and, Bool.false_and, Bool.true_or, Bool.false_or, Bool.not_true, Bool.not_false] at hL_18
     refine WK.condT rfl ?_
     refine WK.sr mixed ?_
     refine GX.q (.agg (TWorld.c w2x)) ?_
     refine GX.m rfl ?_
     refine GX.step0 (heap' := [(0, .box (TWorld.c w2x)), (1, .box (TWorld.c w2x))]) (next' := 2) rfl rfl rfl rfl rfl ?_
     refine GX.m rfl ?_
     refine GX.done ?_
     refine WK.ret ?_
     refine QF.ret ?_
     refine QF.ret (hQ_18 _ _ ?_)
     subst hL_18
     subst hR
     exact RetQ.fr [] (.inr rfl) rfl rfl rfl rfl
  ·rw [hb34]
   obtain ⟨x8, hx33, hd33, hlt33⟩ := drop_more hb34
   rw [hd33, F28_crossroadsref28_Sweep_l3] at hL_33
   refine WK.condT rfl ?_
   refine WK.skip ?_
   refine WK.seq ?_
   refine WK.blockK (fun _ hK37 => ?_)
   refine WK.sr mixed ?_
   refine GX.m rfl ?_
   refine GX.m rfl ?_
   refine GX.idxT (c := TBorder.c) (x := x8) rfl rfl rfl (Int.natCast_nonneg _) hx33 ?_
   refine GX.q (.agg (TBorder.c x8)) ?_
   refine GX.step (v' := .ptr 2 0) (heap' := [(0, .box (TWorld.c w2x)), (1, .box [.nils]), (2, .box [.int .i64 0, .int .i64 0, .bool false])]) (next' := 3) rfl rfl rfl rfl rfl rfl rfl ?_
   refine GX.step0 (heap' := [(0, .box (TWorld.c w2x)), (1, .box [.nils]), (2, .box (TBorder.c x8))]) (next' := 3) rfl rfl rfl rfl rfl ?_
   refine GX.done ?_
   refine WK.seq ?_
   refine WK.sr mixed ?_
   refine GX.q (.ptr 2 0) ?_
   refine GX.q (.int .i64 x8.From) ?_
   refine GX.q (.bool (decide (x8.From < 0))) ?_
   refine GX.m rfl ?_
   rcases bool_two (decide (x8.From < 0)) with hb38 | hb38
   ·rw [hb38]; try simp only [hb38, cond_true, cond_false, Bool.true_and, Bool.false_and, Bool.true_or, Bool.false_or, Bool.not_true, Bool.not_false] at hL_33
    refine GX.q (.ptr 2 0) ?_
    refine GX.q (.int .i64 x8.From) ?_
    refine GX.q (.ptr 0 0) ?_
    refine GX.q (.ro 3 (w2x.D.map TDomain.c)) ?_
    refine GX.pure (v' := .int .i64 (w2x.D.length : Int)) rfl rfl rfl rfl (len_map _ _) ?_
    refine GX.q (.bool (decide ((w2x.D.length : Int) ≤ x8.From))) ?_
    refine GX.q (.bool (decide ((w2x.D.length : Int) ≤ x8.From))) ?_
    refine GX.done ?_
    rcases bool_two (decide ((w2x.D.length : Int) ≤ x8.From)) with hb39 | hb39
    ·rw [hb39]; try simp only [hb39, cond_true, cond_false, Bool.true_and, Bool.false_and, Bool.true_or, Bool.false_or, Bool.not_true, Bool.not_false] at hL_33
     refine WK.condF rfl ?_
     refine WK.skip ?_
     refine WK.sr mixed ?_
     refine GX.step (v' := .own 3 2 0 (([] : List TPrefix)).length) (heap' := [(0, .box (TWorld.c w2x)), (1, .box [.nils]), (2, .box (TBorder.c x8)), (3, .row 2 29 (([] : List TPrefix).map TPrefix.c))]) (next' := 4) rfl rfl rfl rfl rfl rfl rfl ?_
     refine GX.q (.ptr 0 0) ?_
     refine GX.q (.ro 3 (w2x.D.map TDomain.c)) ?_
     refine GX.q (.ptr 2 0) ?_
     refine GX.q (.int .i64 x8.From) ?_
     refine GX.idxT (c := TDomain.c) (x := (w2x.D.getD x8.From.toNat default)) rfl rfl rfl (by ((try simp only [decide_eq_true_eq, decide_eq_false_iff_not, Bool.not_eq_true, Bool.not_eq_false] at *); first | omega | (rw [wrap64_of (by omega) (by omega)]; omega) | (unfold min_ max_; (repeat' split) <;> first | omega | (rw [wrap64_of (by omega) (by omega)]; omega)))) (getD_at (by ((try simp only [decide_eq_true_eq, decide_eq_false_iff_not, Bool.not_eq_true, Bool.not_eq_false] at *); first | omega | (rw [wrap64_of (by omega) (by omega)]; omega) | (unfold min_ max_; (repeat' split) <;> first | omega | (rw [wrap64_of (by omega) (by omega)]; omega))))) ?_
     refine GX.q (.rptr [.ro 2 (((w2x.D.getD x8.From.toNat default).In).map TPrefix.c), .ro 4 (((w2x.D.getD x8.From.toNat default).Ext).map TExt.c)]) ?_
     refine GX.q (.ro 2 (((w2x.D.getD x8.From.toNat default).In).map TPrefix.c)) ?_
     refine GX.appT (c := TPrefix.c) (L := ([] : List TPrefix)) (X := (w2x.D.getD x8.From.toNat default).In) (heap' := [(0, .box (TWorld.c w2x)), (1, .box [.nils]), (2, .box (TBorder.c x8)), (4, .row 2 29 (((w2x.D.getD x8.From.toNat default).In).map TPrefix.c))]) (next' := 5) rfl rfl rfl rfl elems_ro (by (have h1 := (InvW.get (w := w2x) (by assumption) x8.From.toNat).nEx; have h2 := (InvW.get (w := w2x) (by assumption) x8.From.toNat).nIn; (try simp only [List.length_append, List.length_cons, List.length_nil] at *); omega)) (by (have h1 := (InvW.get (w := w2x) (by assumption) x8.From.toNat).nEx; have h2 := (InvW.get (w := w2x) (by assumption) x8.From.toNat).nIn; (try simp only [List.length_append, List.length_cons, List.length_nil] at *); omega)) rfl rfl rfl rfl ?_
     refine GX.m rfl ?_
     refine GX.done ?_
     refine WK.seq ?_
     refine WK.sr mixed ?_
     refine GX.m rfl ?_
     refine GX.done ?_
     refine WK.lenp (t := 46) (j := 2) rfl rfl (by simp) (fun hlen_51 => ?_)
     rw [List.length_map] at hlen_51
     generalize hZ_51 : F28_crossroadsref28_Sweep_l2 ((w2x.D.getD x8.From.toNat default).In) ((w2x.D.getD x8.From.toNat default).Ext) = Z_51 at hL_33
     refine WK.forK (fun k s => ∃ (i11 : Nat) (tells10 : List TPrefix), i11 ≤ ((w2x.D.getD x8.From.toNat default).Ext).length ∧ k = ((w2x.D.getD x8.From.toNat default).Ext).length - i11 ∧ tells10.length ≤ 50 + i11 ∧ F28_crossroadsref28_Sweep_l2 tells10 (((w2x.D.getD x8.From.toNat default).Ext).drop i11) = Z_51 ∧ s = ⟨[(1, .ro 3 (l1.map TBorder.c)), (2, .ptr 0 0), (4, .ptr 1 0), (6, .int .i64 n6), (7, .bool changed7), (8, .int .i64 (i8 : Int)), (9, .ptr 2 0), (10, .own 3 2 0 tells10.length), (11, .int .i64 (i11 : Int)), (34, .ptr 2 0), (35, .int .i64 x8.From), (36, .ptr 0 0), (37, .ro 3 (w2x.D.map TDomain.c)), (38, .int .i64 (w2x.D.length : Int)), (39, .bool false)], [(0, .box (TWorld.c w2x)), (1, .box [.nils]), (2, .box (TBorder.c x8)), (3, .row 2 29 (tells10.map TPrefix.c))], 4⟩) ((w2x.D.getD x8.From.toNat default).Ext).length ⟨⟨[(1, .ro 3 (l1.map TBorder.c)), (2, .ptr 0 0), (4, .ptr 1 0), (6, .int .i64 n6), (7, .bool changed7), (8, .int .i64 (i8 : Int)), (9, .ptr 2 0), (10, .own 3 2 0 ((w2x.D.getD x8.From.toNat default).In).length), (11, .int .i64 (0 : Int)), (34, .ptr 2 0), (35, .int .i64 x8.From), (36, .ptr 0 0), (37, .ro 3 (w2x.D.map TDomain.c)), (38, .int .i64 (w2x.D.length : Int)), (39, .bool false)], [(0, .box (TWorld.c w2x)), (1, .box [.nils]), (2, .box (TBorder.c x8)), (3, .row 2 29 (((w2x.D.getD x8.From.toNat default).In).map TPrefix.c))], 4⟩, Conv.keep [0, 1, 2, 4] [] [1, 2, 4, 6, 7, 8, 9, 10, 11, 34, 35, 36, 37, 38, 39] rfl rfl (viewE_cons rfl rfl (viewE_cons rfl rfl (viewE_cons rfl rfl (viewE_cons rfl rfl (viewE_cons rfl rfl (viewE_cons rfl rfl (viewE_cons rfl rfl (viewE_cons rfl rfl (viewE_cons rfl rfl (viewE_cons rfl rfl (viewE_cons rfl rfl (viewE_cons rfl rfl (viewE_cons rfl rfl (viewE_cons rfl rfl (viewE_cons rfl rfl viewE_nil))))))))))))))) rfl rfl, 0, ((w2x.D.getD x8.From.toNat default).In), (by omega), rfl, (by (have h1 := (InvW.get (w := w2x) (by assumption) x8.From.toNat).nIn; (try simp only [List.length_append, List.length_cons, List.length_nil] at *); omega)), hZ_51, rfl⟩ ?_
     rintro _ _ ⟨i11, tells10, hi_51, rfl, hinv51_c0, hL_51, rfl⟩ again_51 out_51 Q_51 hagain_51 hout_51 hQ_51
     refine WK.seq ?_
     refine WK.sr mixed ?_
     refine GX.m rfl ?_
     refine GX.q (.ptr 0 0) ?_
     refine GX.q (.ro 3 (w2x.D.map TDomain.c)) ?_
     refine GX.q (.ptr 2 0) ?_
     refine GX.q (.int .i64 x8.From) ?_
     refine GX.idxT (c := TDomain.c) (x := (w2x.D.getD x8.From.toNat default)) rfl rfl rfl (by ((try simp only [decide_eq_true_eq, decide_eq_false_iff_not, Bool.not_eq_true, Bool.not_eq_false] at *); first | omega | (rw [wrap64_of (by omega) (by omega)]; omega) | (unfold min_ max_; (repeat' split) <;> first | omega | (rw [wrap64_of (by omega) (by omega)]; omega)))) (getD_at (by ((try simp only [decide_eq_true_eq, decide_eq_false_iff_not, Bool.not_eq_true, Bool.not_eq_false] at *); first | omega | (rw [wrap64_of (by omega) (by omega)]; omega) | (unfold min_ max_; (repeat' split) <;> first | omega | (rw [wrap64_of (by omega) (by omega)]; omega))))) ?_
     refine GX.q (.rptr [.ro 4 (((w2x.D.getD x8.From.toNat default).Ext).map TExt.c)]) ?_
     refine GX.q (.ro 4 (((w2x.D.getD x8.From.toNat default).Ext).map TExt.c)) ?_
     refine GX.pure (v' := .int .i64 (((w2x.D.getD x8.From.toNat default).Ext).length : Int)) rfl rfl rfl rfl (len_map _ _) ?_
     refine GX.q (.bool (decide ((i11 : Int) < (((w2x.D.getD x8.From.toNat default).Ext).length : Int)))) ?_
     refine GX.done ?_
     rcases bool_two (decide ((i11 : Int) < (((w2x.D.getD x8.From.toNat default).Ext).length : Int))) with hb52 | hb52
     ·rw [hb52]
      rw [drop_end hb52, F28_crossroadsref28_Sweep_l2] at hL_51
      refine WK.condF rfl ?_
      refine WK.exit ?_
      refine QF.exit (hout_51 _ ?_)
      subst hL_51
      try dsimp only [cond_true, cond_false] at hL_33
      refine WK.sr mixed ?_
      refine GX.m rfl ?_
      refine GX.done ?_
      refine WK.leno (id := 3) rfl (by simp) (fun hlen_57 => ?_)
      rw [List.length_map] at hlen_57
      generalize hZ_57 : F28_crossroadsref28_Sweep_l1 x8 changed7 w2x tells10 = Z_57 at hL_33
      refine WK.forK (fun k s => ∃ (i12 : Nat) (changed7x : Bool) (w2xx : TWorld), i12 ≤ tells10.length ∧ k = tells10.length - i12 ∧ InvW w2xx ∧ F28_crossroadsref28_Sweep_l1 x8 changed7x w2xx (tells10.drop i12) = Z_57 ∧ s = ⟨[(1, .ro 3 (l1.map TBorder.c)), (2, .ptr 0 0), (4, .ptr 1 0), (6, .int .i64 n6), (7, .bool changed7x), (8, .int .i64 (i8 : Int)), (9, .ptr 2 0), (10, .own 3 2 0 tells10.length), (12, .int .i64 (i12 : Int)), (34, .ptr 2 0), (35, .int .i64 x8.From), (36, .ptr 0 0), (37, .ro 3 (w2x.D.map TDomain.c)), (38, .int .i64 (w2x.D.length : Int)), (39, .bool false)], [(0, .box (TWorld.c w2xx)), (1, .box [.nils]), (2, .box (TBorder.c x8)), (3, .row 2 29 (tells10.map TPrefix.c))], 4⟩) tells10.length ⟨⟨[(1, .ro 3 (l1.map TBorder.c)), (2, .ptr 0 0), (4, .ptr 1 0), (6, .int .i64 n6), (7, .bool changed7), (8, .int .i64 (i8 : Int)), (9, .ptr 2 0), (10, .own 3 2 0 tells10.length), (12, .int .i64 (0 : Int)), (34, .ptr 2 0), (35, .int .i64 x8.From), (36, .ptr 0 0), (37, .ro 3 (w2x.D.map TDomain.c)), (38, .int .i64 (w2x.D.length : Int)), (39, .bool false)], [(0, .box (TWorld.c w2x)), (1, .box [.nils]), (2, .box (TBorder.c x8)), (3, .row 2 29 (tells10.map TPrefix.c))], 4⟩, Conv.keep [0, 1, 2, 3] [] [1, 2, 4, 6, 7, 8, 9, 10, 12, 34, 35, 36, 37, 38, 39] rfl rfl (viewE_cons rfl rfl (viewE_cons rfl rfl (viewE_cons rfl rfl (viewE_cons rfl rfl (viewE_cons rfl rfl (viewE_cons rfl rfl (viewE_cons rfl rfl (viewE_cons rfl rfl (viewE_cons rfl rfl (viewE_cons rfl rfl (viewE_cons rfl rfl (viewE_cons rfl rfl (viewE_cons rfl rfl (viewE_cons rfl rfl (viewE_cons rfl rfl viewE_nil))))))))))))))) rfl rfl, 0, changed7, w2x, (by omega), rfl, (by omega), hZ_57, rfl⟩ ?_
      rintro _ _ ⟨i12, changed7x, w2xx, hi_57, rfl, hinv57_c0, hL_57, rfl⟩ again_57 out_57 Q_57 hagain_57 hout_57 hQ_57
      refine WK.seq ?_
      refine WK.sr mixed ?_
      refine GX.m rfl ?_
      refine GX.m rfl ?_
      refine GX.q (.int .i64 (tells10.length : Int)) ?_
      refine GX.q (.bool (decide ((i12 : Int) < (tells10.length : Int)))) ?_
      refine GX.done ?_
      rcases bool_two (decide ((i12 : Int) < (tells10.length : Int))) with hb58 | hb58
      ·rw [hb58]
       rw [drop_end hb58, F28_crossroadsref28_Sweep_l1] at hL_57
       refine WK.condF rfl ?_
       refine WK.exit ?_
       refine QF.exit (hout_57 _ ?_)
       subst hL_57
       try dsimp only [cond_true, cond_false] at hL_33
       refine WK.nil (QF.normal (hK37 _ ?_))
       refine WK.regx mixed ?_
       refine GX.m rfl ?_
       refine GX.pure (v' := .int .i64 ((i8 + 1 : Nat) : Int)) rfl rfl rfl rfl (congrArg (PVal.int .i64) (wrap_up hlt33 hlen_33)) ?_
       refine GX.m rfl ?_
       refine GX.done ?_
       refine WK.nil (QF.normal ?_)
       exact hagain_33 _ (l1.length - (i8 + 1)) ⟨[(1, .ro 3 (l1.map TBorder.c)), (2, .ptr 0 0), (4, .ptr 1 0), (6, .int .i64 n6), (7, .bool changed7x), (8, .int .i64 ((i8 + 1) : Int))], [(0, .box (TWorld.c w2xx)), (1, .box [.nils])], 2⟩ (by omega) (Conv.keep [0, 1] [] [1, 2, 4, 6, 7, 8] rfl rfl (viewE_cons rfl rfl (viewE_cons rfl rfl (viewE_cons rfl rfl (viewE_cons rfl rfl (viewE_cons rfl rfl (viewE_cons rfl rfl viewE_nil)))))) rfl rfl) ⟨i8 + 1, changed7x, w2xx, (by omega), rfl, (by omega), hL_33, rfl⟩
      ·rw [hb58]
       obtain ⟨x12, hx57, hd57, hlt57⟩ := drop_more hb58
       rw [hd57, F28_crossroadsref28_Sweep_l1] at hL_57
       refine WK.condT rfl ?_
       refine WK.skip ?_
       refine WK.seq ?_
       refine WK.blockK (fun _ hK59 => ?_)
       refine WK.seq ?_
       refine WK.drawn mixed ?_
       refine RD.q (.agg (TWorld.c w2xx)) ?_
       refine RD.q (.agg (TBorder.c x8)) ?_
       refine RD.m rfl ?_
       refine RD.m rfl ?_
       refine RD.pure (v' := .eptr 3 2 i12 0) rfl rfl rfl (core_idxoT (c := TPrefix.c) (L := tells10) (j := i12) rfl (by omega) (by omega) (by exact Nat.le_refl _)) rfl ?_
       refine RD.pure (v' := .agg (TPrefix.c x12)) rfl rfl rfl (core_loaT (c := TPrefix.c) (L := tells10) (x := x12) rfl hx57 rfl) rfl ?_
       generalize hc89 : F18_crossroadsref28_Tell w2xx x8 x12 = c89 at hL_57
       have hpo0_c89 := post_i18 w2xx x8 x12 (by omega); rw [hc89] at hpo0_c89
       obtain ⟨c89a, c89b, c89c⟩ := c89; try dsimp only at hL_57; try dsimp only at hpo0_c89
       refine RD.callp (r := .tup [.agg [.ro 3 (c89a.D.map TDomain.c)], .bool c89b, .int .i64 c89c]) rfl rfl rfl (f18_ok w2xx x8 x12 (by omega) _ hc89) rfl rfl ?_
       refine RD.m rfl ?_
       refine RD.q (.agg [.ro 3 (c89a.D.map TDomain.c)]) ?_
       refine RD.q (.bool c89b) ?_
       refine RD.q (.int .i64 c89c) ?_
       refine RD.step (v' := .ptr 4 0) (heap' := [(0, .box (TWorld.c w2xx)), (1, .box [.nils]), (2, .box (TBorder.c x8)), (3, .row 2 29 (tells10.map TPrefix.c)), (4, .box [.nils])]) (next' := 5) rfl rfl rfl rfl rfl rfl rfl ?_
       refine RD.step0 (heap' := [(0, .box (TWorld.c w2xx)), (1, .box [.nils]), (2, .box (TBorder.c x8)), (3, .row 2 29 (tells10.map TPrefix.c)), (4, .box (TWorld.c c89a))]) (next' := 5) rfl rfl rfl rfl rfl ?_
       refine RD.m rfl ?_
       refine RD.m rfl ?_
       refine RD.done rfl ?_
       refine WK.sr mixed ?_
       refine GX.q (.agg (TWorld.c c89a)) ?_
       refine GX.step0 (heap' := [(0, .box (TWorld.c c89a)), (1, .box [.nils]), (2, .box (TBorder.c x8)), (3, .row 2 29 (tells10.map TPrefix.c)), (4, .box (TWorld.c c89a))]) (next' := 5) rfl rfl rfl rfl rfl ?_
       refine GX.done ?_
       refine WK.regx mixed ?_
       refine GX.m rfl ?_
       refine GX.m rfl ?_
       rcases bool_two (changed7x) with hb60 | hb60
       ·rw [hb60]; try simp only [hb60, cond_true, cond_false, Bool.true_and, Bool.false_and, Bool.true_or, Bool.false_or, Bool.not_true, Bool.not_false] at hL_57
        refine GX.m rfl ?_
        refine GX.q (.bool c89b) ?_
        refine GX.m rfl ?_
        refine GX.done ?_
        refine WK.nil (QF.normal (hK59 _ ?_))
        refine WK.regx mixed ?_
        refine GX.m rfl ?_
        refine GX.pure (v' := .int .i64 ((i12 + 1 : Nat) : Int)) rfl rfl rfl rfl (congrArg (PVal.int .i64) (wrap_up hlt57 hlen_57)) ?_
        refine GX.m rfl ?_
        refine GX.done ?_
        refine WK.nil (QF.normal ?_)
        exact hagain_57 _ (tells10.length - (i12 + 1)) ⟨[(1, .ro 3 (l1.map TBorder.c)), (2, .ptr 0 0), (4, .ptr 1 0), (6, .int .i64 n6), (7, .bool c89b), (8, .int .i64 (i8 : Int)), (9, .ptr 2 0), (10, .own 3 2 0 tells10.length), (12, .int .i64 ((i12 + 1) : Int)), (34, .ptr 2 0), (35, .int .i64 x8.From), (36, .ptr 0 0), (37, .ro 3 (w2x.D.map TDomain.c)), (38, .int .i64 (w2x.D.length : Int)), (39, .bool false)], [(0, .box (TWorld.c c89a)), (1, .box [.nils]), (2, .box (TBorder.c x8)), (3, .row 2 29 (tells10.map TPrefix.c))], 4⟩ (by omega) (Conv.keep [0, 1, 2, 3] [] [1, 2, 4, 6, 7, 8, 9, 10, 12, 34, 35, 36, 37, 38, 39] rfl rfl (viewE_cons rfl rfl (viewE_cons rfl rfl (viewE_cons rfl rfl (viewE_cons rfl rfl (viewE_cons rfl rfl (viewE_cons rfl rfl (viewE_cons rfl rfl (viewE_cons rfl rfl (viewE_cons rfl rfl (viewE_cons rfl rfl (viewE_cons rfl rfl (viewE_cons rfl rfl (viewE_cons rfl rfl (viewE_cons rfl rfl (viewE_cons rfl rfl viewE_nil))))))))))))))) rfl rfl) ⟨i12 + 1, c89b, c89a, (by omega), rfl, (by omega), hL_57, rfl⟩
       ·rw [hb60]; try simp only [hb60, cond_true, cond_false, Bool.true_and, Bool.false_and, Bool.true_or, Bool.false_or, Bool.not_true, Bool.not_false] at hL_57
        refine GX.skip rfl rfl ?_
        refine GX.q (.bool true) ?_
        refine GX.m rfl ?_
        refine GX.done ?_
        refine WK.nil (QF.normal (hK59 _ ?_))
        refine WK.regx mixed ?_
        refine GX.m rfl ?_
        refine GX.pure (v' := .int .i64 ((i12 + 1 : Nat) : Int)) rfl rfl rfl rfl (congrArg (PVal.int .i64) (wrap_up hlt57 hlen_57)) ?_
        refine GX.m rfl ?_
        refine GX.done ?_
        refine WK.nil (QF.normal ?_)
        exact hagain_57 _ (tells10.length - (i12 + 1)) ⟨[(1, .ro 3 (l1.map TBorder.c)), (2, .ptr 0 0), (4, .ptr 1 0), (6, .int .i64 n6), (7, .bool true), (8, .int .i64 (i8 : Int)), (9, .ptr 2 0), (10, .own 3 2 0 tells10.length), (12, .int .i64 ((i12 + 1) : Int)), (34, .ptr 2 0), (35, .int .i64 x8.From), (36, .ptr 0 0), (37, .ro 3 (w2x.D.map TDomain.c)), (38, .int .i64 (w2x.D.length : Int)), (39, .bool false)], [(0, .box (TWorld.c c89a)), (1, .box [.nils]), (2, .box (TBorder.c x8)), (3, .row 2 29 (tells10.map TPrefix.c))], 4⟩ (by omega) (Conv.keep [0, 1, 2, 3] [] [1, 2, 4, 6, 7, 8, 9, 10, 12, 34, 35, 36, 37, 38, 39] rfl rfl (viewE_cons rfl rfl (viewE_cons rfl rfl (viewE_cons rfl rfl (viewE_cons rfl rfl (viewE_cons rfl rfl (viewE_cons rfl rfl (viewE_cons rfl rfl (viewE_cons rfl rfl (viewE_cons rfl rfl (viewE_cons rfl rfl (viewE_cons rfl rfl (viewE_cons rfl rfl (viewE_cons rfl rfl (viewE_cons rfl rfl (viewE_cons rfl rfl viewE_nil))))))))))))))) rfl rfl) ⟨i12 + 1, true, c89a, (by omega), rfl, (by omega), hL_57, rfl⟩
     ·rw [hb52]
      obtain ⟨x11, hx51, hd51, hlt51⟩ := drop_more hb52
      rw [hd51, F28_crossroadsref28_Sweep_l2] at hL_51
      refine WK.condT rfl ?_
      refine WK.skip ?_
      refine WK.seq ?_
      refine WK.blockK (fun _ hK61 => ?_)
      refine WK.regx mixed ?_
      refine GX.m rfl ?_
      refine GX.q (.ptr 0 0) ?_
      refine GX.q (.ro 3 (w2x.D.map TDomain.c)) ?_
      refine GX.q (.ptr 2 0) ?_
      refine GX.q (.int .i64 x8.From) ?_
      refine GX.idxT (c := TDomain.c) (x := (w2x.D.getD x8.From.toNat default)) rfl rfl rfl (by ((try simp only [decide_eq_true_eq, decide_eq_false_iff_not, Bool.not_eq_true, Bool.not_eq_false] at *); first | omega | (rw [wrap64_of (by omega) (by omega)]; omega) | (unfold min_ max_; (repeat' split) <;> first | omega | (rw [wrap64_of (by omega) (by omega)]; omega)))) (getD_at (by ((try simp only [decide_eq_true_eq, decide_eq_false_iff_not, Bool.not_eq_true, Bool.not_eq_false] at *); first | omega | (rw [wrap64_of (by omega) (by omega)]; omega) | (unfold min_ max_; (repeat' split) <;> first | omega | (rw [wrap64_of (by omega) (by omega)]; omega))))) ?_
      refine GX.q (.rptr [.ro 4 (((w2x.D.getD x8.From.toNat default).Ext).map TExt.c)]) ?_
      refine GX.q (.ro 4 (((w2x.D.getD x8.From.toNat default).Ext).map TExt.c)) ?_
      refine GX.m rfl ?_
      refine GX.idxT (c := TExt.c) (x := x11) rfl rfl rfl (Int.natCast_nonneg _) hx51 ?_
      refine GX.q (.rptr (TExt.c x11)) ?_
      refine GX.q (.agg [.int .u32 x11.P.A, .int .i64 x11.P.N]) ?_
      refine GX.step (v' := .own 4 2 0 (([x11.P] : List TPrefix)).length) (heap' := [(0, .box (TWorld.c w2x)), (1, .box [.nils]), (2, .box (TBorder.c x8)), (3, .row 2 29 (tells10.map TPrefix.c)), (4, .row 2 29 (([x11.P] : List TPrefix).map TPrefix.c))]) (next' := 5) rfl rfl rfl rfl rfl rfl rfl ?_
      refine GX.appT (c := TPrefix.c) (L := tells10) (X := ([x11.P] : List TPrefix)) (heap' := [(0, .box (TWorld.c w2x)), (1, .box [.nils]), (2, .box (TBorder.c x8)), (4, .row 2 29 (([x11.P] : List TPrefix).map TPrefix.c)), (5, .row 2 29 ((tells10 ++ ([x11.P] : List TPrefix)).map TPrefix.c))]) (next' := 6) rfl rfl rfl rfl (elems_own rfl) (by (have h1 := (InvW.get (w := w2x) (by assumption) x8.From.toNat).nEx; have h2 := (InvW.get (w := w2x) (by assumption) x8.From.toNat).nIn; (try simp only [List.length_append, List.length_cons, List.length_nil] at *); omega)) (by (have h1 := (InvW.get (w := w2x) (by assumption) x8.From.toNat).nEx; have h2 := (InvW.get (w := w2x) (by assumption) x8.From.toNat).nIn; (try simp only [List.length_append, List.length_cons, List.length_nil] at *); omega)) rfl rfl rfl rfl ?_
      refine GX.m rfl ?_
      refine GX.done ?_
      refine WK.nil (QF.normal (hK61 _ ?_))
      refine WK.regx mixed ?_
      refine GX.m rfl ?_
      refine GX.pure (v' := .int .i64 ((i11 + 1 : Nat) : Int)) rfl rfl rfl rfl (congrArg (PVal.int .i64) (wrap_up hlt51 hlen_51)) ?_
      refine GX.m rfl ?_
      refine GX.done ?_
      refine WK.nil (QF.normal ?_)
      exact hagain_51 _ (((w2x.D.getD x8.From.toNat default).Ext).length - (i11 + 1)) ⟨[(1, .ro 3 (l1.map TBorder.c)), (2, .ptr 0 0), (4, .ptr 1 0), (6, .int .i64 n6), (7, .bool changed7), (8, .int .i64 (i8 : Int)), (9, .ptr 2 0), (10, .own 3 2 0 (tells10 ++ ([x11.P] : List TPrefix)).length), (11, .int .i64 ((i11 + 1) : Int)), (34, .ptr 2 0), (35, .int .i64 x8.From), (36, .ptr 0 0), (37, .ro 3 (w2x.D.map TDomain.c)), (38, .int .i64 (w2x.D.length : Int)), (39, .bool false)], [(0, .box (TWorld.c w2x)), (1, .box [.nils]), (2, .box (TBorder.c x8)), (3, .row 2 29 ((tells10 ++ ([x11.P] : List TPrefix)).map TPrefix.c))], 4⟩ (by omega) (Conv.keep [0, 1, 2, 5] [] [1, 2, 4, 6, 7, 8, 9, 10, 11, 34, 35, 36, 37, 38, 39] rfl rfl (viewE_cons rfl rfl (viewE_cons rfl rfl (viewE_cons rfl rfl (viewE_cons rfl rfl (viewE_cons rfl rfl (viewE_cons rfl rfl (viewE_cons rfl rfl (viewE_cons rfl rfl (viewE_cons rfl rfl (viewE_cons rfl rfl (viewE_cons rfl rfl (viewE_cons rfl rfl (viewE_cons rfl rfl (viewE_cons rfl rfl (viewE_cons rfl rfl viewE_nil))))))))))))))) rfl rfl) ⟨i11 + 1, (tells10 ++ ([x11.P] : List TPrefix)), (by omega), rfl, (by ((try simp only [List.length_append, List.length_cons, List.length_nil, decide_eq_true_eq] at *) <;> first | omega | (rw [wrap64_of (by omega) (by omega)]; omega))), hL_51, rfl⟩
    ·rw [hb39]; try simp only [hb39, cond_true, cond_false, Bool.true_and, Bool.false_and, Bool.true_or, Bool.false_or, Bool.not_true, Bool.not_false] at hL_33
     refine WK.condT rfl ?_
     refine WK.exit ?_
     refine QF.exit (hK37 _ ?_)
     refine WK.regx mixed ?_
     refine GX.m rfl ?_
     refine GX.pure (v' := .int .i64 ((i8 + 1 : Nat) : Int)) rfl rfl rfl rfl (congrArg (PVal.int .i64) (wrap_up hlt33 hlen_33)) ?_
     refine GX.m rfl ?_
     refine GX.done ?_
     refine WK.nil (QF.normal ?_)
     exact hagain_33 _ (l1.length - (i8 + 1)) ⟨[(1, .ro 3 (l1.map TBorder.c)), (2, .ptr 0 0), (4, .ptr 1 0), (6, .int .i64 n6), (7, .bool changed7), (8, .int .i64 ((i8 + 1) : Int))], [(0, .box (TWorld.c w2x)), (1, .box [.nils])], 2⟩ (by omega) (Conv.keep [0, 1] [] [1, 2, 4, 6, 7, 8] rfl rfl (viewE_cons rfl rfl (viewE_cons rfl rfl (viewE_cons rfl rfl (viewE_cons rfl rfl (viewE_cons rfl rfl (viewE_cons rfl rfl viewE_nil)))))) rfl rfl) ⟨i8 + 1, changed7, w2x, (by omega), rfl, (by omega), hL_33, rfl⟩
   ·rw [hb38]; try simp only [hb38, cond_true, cond_false, Bool.true_and, Bool.false_and, Bool.true_or, Bool.false_or, Bool.not_true, Bool.not_false] at hL_33
    refine GX.skip rfl rfl ?_
    refine GX.skip rfl rfl ?_
    refine GX.skip rfl rfl ?_
    refine GX.skip rfl rfl ?_
    refine GX.skip rfl rfl ?_
    refine GX.skip rfl rfl ?_
    refine GX.q (.bool true) ?_
    refine GX.done ?_
    refine WK.condT rfl ?_
    refine WK.exit ?_
    refine QF.exit (hK37 _ ?_)
    refine WK.regx mixed ?_
    refine GX.m rfl ?_
    refine GX.pure (v' := .int .i64 ((i8 + 1 : Nat) : Int)) rfl rfl rfl rfl (congrArg (PVal.int .i64) (wrap_up hlt33 hlen_33)) ?_
    refine GX.m rfl ?_
    refine GX.done ?_
    refine WK.nil (QF.normal ?_)
    exact hagain_33 _ (l1.length - (i8 + 1)) ⟨[(1, .ro 3 (l1.map TBorder.c)), (2, .ptr 0 0), (4, .ptr 1 0), (6, .int .i64 n6), (7, .bool changed7), (8, .int .i64 ((i8 + 1) : Int))], [(0, .box (TWorld.c w2x)), (1, .box [.nils])], 2⟩ (by omega) (Conv.keep [0, 1] [] [1, 2, 4, 6, 7, 8] rfl rfl (viewE_cons rfl rfl (viewE_cons rfl rfl (viewE_cons rfl rfl (viewE_cons rfl rfl (viewE_cons rfl rfl (viewE_cons rfl rfl viewE_nil)))))) rfl rfl) ⟨i8 + 1, changed7, w2x, (by omega), rfl, (by omega), hL_33, rfl⟩

theorem f5_ok (tags0 : List Int) (script1 : List TAct) (l2 : List TBorder) (R : Bool) (hR : F5_crossroadslaw28_RedistSweep tags0 script1 l2 = R) : FnOk Try.prog 5 [.ro 1 (tags0.map c_u32), .ro 6 (script1.map TAct.c), .ro 3 (l2.map TBorder.c)] [] 0 (.bool R) [] 0 := by
 refine FnOk.wk i5 rfl rfl ?_
 unfold F5_crossroadslaw28_RedistSweep at hR
 change WK _ _ _ [ac5] _ ⟨[(0, .ro 1 (tags0.map c_u32)), (1, .ro 6 (script1.map TAct.c)), (2, .ro 3 (l2.map TBorder.c))], [], 0⟩
 unfold ac5
 refine WK.sr mixed ?_
 refine GX.m rfl ?_
 refine GX.done ?_
 refine WK.sr mixed ?_
 refine GX.m rfl ?_
 refine GX.m rfl ?_
 generalize hc18 : F9_crossroadslaw28_built tags0 script1 = c18 at hR
 have hpo0_c18 := post_i9 tags0 script1; rw [hc18] at hpo0_c18
 obtain ⟨c18a, c18b⟩ := c18; try dsimp only at hR; try dsimp only at hpo0_c18
 refine GX.callp (r := .tup [.agg [.ro 3 (c18a.D.map TDomain.c)], .bool c18b]) rfl rfl rfl (f9_ok tags0 script1 _ hc18) rfl rfl ?_
 refine GX.m rfl ?_
 refine GX.q (.agg [.ro 3 (c18a.D.map TDomain.c)]) ?_
 refine GX.q (.bool c18b) ?_
 refine GX.step (v' := .ptr 0 0) (heap' := [(0, .box [.nils])]) (next' := 1) rfl rfl rfl rfl rfl rfl rfl ?_
 refine GX.step0 (heap' := [(0, .box (TWorld.c c18a))]) (next' := 1) rfl rfl rfl rfl rfl ?_
 refine GX.m rfl ?_
 refine GX.done ?_
 refine WK.seq ?_
 refine WK.sr mixed ?_
 refine GX.m rfl ?_
 refine GX.q (.bool (!c18b)) ?_
 refine GX.m rfl ?_
 rcases bool_two (c18b) with hb1 | hb1
 ·rw [hb1]; try simp only [hb1, cond_true, cond_false, Bool.true_and, Bool.false_and, Bool.true_or, Bool.false_or, Bool.not_true, Bool.not_false] at hR
  refine GX.skip rfl rfl ?_
  refine GX.skip rfl rfl ?_
  refine GX.skip rfl rfl ?_
  refine GX.q (.bool true) ?_
  refine GX.done ?_
  refine WK.condT rfl ?_
  refine WK.sr mixed ?_
  generalize hc28 : F8_crossroadslaw28_alive = c28 at hR
  try dsimp only at hR
  refine GX.callp (r := .bool c28) rfl rfl rfl (f8_ok  _ hc28) rfl rfl ?_
  refine GX.m rfl ?_
  refine GX.done ?_
  refine WK.ret ?_
  subst hR
  exact RetQ.fr [] (.inr rfl) rfl rfl rfl rfl
 ·rw [hb1]; try simp only [hb1, cond_true, cond_false, Bool.true_and, Bool.false_and, Bool.true_or, Bool.false_or, Bool.not_true, Bool.not_false] at hR
  refine GX.m rfl ?_
  refine GX.pure (v' := .int .i64 (l2.length : Int)) rfl rfl rfl rfl (len_map _ _) ?_
  refine GX.q (.bool (decide (20 < (l2.length : Int)))) ?_
  refine GX.q (.bool (decide (20 < (l2.length : Int)))) ?_
  refine GX.done ?_
  rcases bool_two (decide (20 < (l2.length : Int))) with hb2 | hb2
  ·rw [hb2]; try simp only [hb2, cond_true, cond_false, Bool.true_and, Bool.false_and, Bool.true_or, Bool.false_or, Bool.not_true, Bool.not_false] at hR
   refine WK.condF rfl ?_
   refine WK.skip ?_
   refine WK.sr mixed ?_
   refine GX.step (v' := .own 1 3 0 (([] : List TBorder)).length) (heap' := [(0, .box (TWorld.c c18a)), (1, .row 3 55 (([] : List TBorder).map TBorder.c))]) (next' := 2) rfl rfl rfl rfl rfl rfl rfl ?_
   refine GX.m rfl ?_
   refine GX.done ?_
   refine WK.seq ?_
   refine WK.sr mixed ?_
   refine GX.m rfl ?_
   refine GX.done ?_
   refine WK.len (t := 2) rfl (by simp) (fun hlen_8 => ?_)
   rw [List.length_map] at hlen_8
   generalize hZ_8 : F5_crossroadslaw28_RedistSweep_l1 ([] : List TBorder) l2 = Z_8 at hR
   refine WK.forK (fun k s => ∃ (i10 : Nat) (k9 : List TBorder), i10 ≤ l2.length ∧ k = l2.length - i10 ∧ k9.length ≤ i10 + 0 ∧ F5_crossroadslaw28_RedistSweep_l1 k9 (l2.drop i10) = Z_8 ∧ s = ⟨[(2, .ro 3 (l2.map TBorder.c)), (7, .ptr 0 0), (9, .own 1 3 0 k9.length), (10, .int .i64 (i10 : Int))], [(0, .box (TWorld.c c18a)), (1, .row 3 55 (k9.map TBorder.c))], 2⟩) l2.length ⟨⟨[(2, .ro 3 (l2.map TBorder.c)), (7, .ptr 0 0), (9, .own 1 3 0 ([] : List TBorder).length), (10, .int .i64 (0 : Int))], [(0, .box (TWorld.c c18a)), (1, .row 3 55 (([] : List TBorder).map TBorder.c))], 2⟩, Conv.keep [0, 1] [] [2, 7, 9, 10] rfl rfl (viewE_cons rfl rfl (viewE_cons rfl rfl (viewE_cons rfl rfl (viewE_cons rfl rfl viewE_nil)))) rfl rfl, 0, ([] : List TBorder), (by omega), rfl, (by ((try simp only [List.length_append, List.length_cons, List.length_nil, decide_eq_true_eq] at *) <;> first | omega | (rw [wrap64_of (by omega) (by omega)]; omega))), hZ_8, rfl⟩ ?_
   rintro _ _ ⟨i10, k9, hi_8, rfl, hinv8_k9, hL_8, rfl⟩ again_8 out_8 Q_8 hagain_8 hout_8 hQ_8
   refine WK.seq ?_
   refine WK.sr mixed ?_
   refine GX.m rfl ?_
   refine GX.m rfl ?_
   refine GX.pure (v' := .int .i64 (l2.length : Int)) rfl rfl rfl rfl (len_map _ _) ?_
   refine GX.q (.bool (decide ((i10 : Int) < (l2.length : Int)))) ?_
   refine GX.done ?_
   rcases bool_two (decide ((i10 : Int) < (l2.length : Int))) with hb9 | hb9
   ·rw [hb9]
    rw [drop_end hb9, F5_crossroadslaw28_RedistSweep_l1] at hL_8
    refine WK.condF rfl ?_
    refine WK.exit ?_
    refine QF.exit (hout_8 _ ?_)
    subst hL_8
    try dsimp only [cond_true, cond_false] at hR
    refine WK.sr mixed ?_
    refine GX.q (.agg (TWorld.c c18a)) ?_
    refine GX.m rfl ?_
    generalize hc47 : F27_redist_Sweep c18a l2 = c47 at hR
    have hpo0_c47 := post_i27 c18a l2 (by omega); rw [hc47] at hpo0_c47
    obtain ⟨c47a, c47b⟩ := c47; try dsimp only at hR; try dsimp only at hpo0_c47
    refine GX.callp (r := .tup [.agg [.ro 3 (c47a.D.map TDomain.c)], .int .i64 c47b]) rfl rfl rfl (f27_ok c18a l2 (by omega) _ hc47) rfl rfl ?_
    refine GX.m rfl ?_
    refine GX.q (.agg [.ro 3 (c47a.D.map TDomain.c)]) ?_
    refine GX.q (.int .i64 c47b) ?_
    refine GX.step (v' := .ptr 2 0) (heap' := [(0, .box (TWorld.c c18a)), (1, .row 3 55 (k9.map TBorder.c)), (2, .box [.nils])]) (next' := 3) rfl rfl rfl rfl rfl rfl rfl ?_
    refine GX.step0 (heap' := [(0, .box (TWorld.c c18a)), (1, .row 3 55 (k9.map TBorder.c)), (2, .box (TWorld.c c47a))]) (next' := 3) rfl rfl rfl rfl rfl ?_
    refine GX.m rfl ?_
    refine GX.done ?_
    refine WK.seq ?_
    refine WK.conv (st' := ⟨[(7, .ptr 0 0), (9, .ro 3 (k9.map TBorder.c)), (11, .ptr 1 0), (12, .int .i64 c47b)], [(0, .box (TWorld.c c18a)), (1, .box (TWorld.c c47a))], 2⟩) (Conv.keep [0, 2] [1] [7, 9, 11, 12] rfl rfl (viewE_cons rfl rfl (viewE_cons rfl (view_rowT rfl rfl) (viewE_cons rfl rfl (viewE_cons rfl rfl viewE_nil)))) rfl rfl) ?_ (by simp)
    refine WK.regx mixed ?_
    refine GX.q (.agg (TWorld.c c18a)) ?_
    generalize hc52 : F13_crossroadslaw28_plain c18a = c52 at hR
    have hpo0_c52 := post_i13 c18a (by omega); rw [hc52] at hpo0_c52
    try dsimp only at hR
    refine GX.callp (r := .agg [.ro 3 (c52.D.map TDomain.c)]) rfl rfl rfl (f13_ok c18a (by omega) _ hc52) rfl rfl ?_
    refine GX.m rfl ?_
    generalize hc54 : F28_crossroadsref28_Sweep c52 k9 = c54 at hR
    have hpo0_c54 := post_i28 c52 k9 (by omega); rw [hc54] at hpo0_c54
    obtain ⟨c54a, c54b⟩ := c54; try dsimp only at hR; try dsimp only at hpo0_c54
    refine GX.callp (r := .tup [.agg [.ro 3 (c54a.D.map TDomain.c)], .int .i64 c54b]) rfl rfl rfl (f28_ok c52 k9 (by omega) _ hc54) rfl rfl ?_
    refine GX.m rfl ?_
    refine GX.q (.agg [.ro 3 (c54a.D.map TDomain.c)]) ?_
    refine GX.q (.int .i64 c54b) ?_
    refine GX.step (v' := .ptr 2 0) (heap' := [(0, .box (TWorld.c c18a)), (1, .box (TWorld.c c47a)), (2, .box [.nils])]) (next' := 3) rfl rfl rfl rfl rfl rfl rfl ?_
    refine GX.step0 (heap' := [(0, .box (TWorld.c c18a)), (1, .box (TWorld.c c47a)), (2, .box (TWorld.c c54a))]) (next' := 3) rfl rfl rfl rfl rfl ?_
    refine GX.m rfl ?_
    refine GX.done ?_
    refine WK.seq ?_
    refine WK.drawn mixed ?_
    generalize hc57 : F8_crossroadslaw28_alive = c57 at hR
    try dsimp only at hR
    refine RD.callp (r := .bool c57) rfl rfl rfl (f8_ok  _ hc57) rfl rfl ?_
    refine RD.m rfl ?_
    rcases bool_two (c57) with hb10 | hb10
    ·rw [hb10]; try simp only [hb10, cond_true, cond_false, Bool.true_and, Bool.false_and, Bool.true_or, Bool.false_or, Bool.not_true, Bool.not_false] at hR
     refine RD.skip rfl rfl ?_
     refine RD.skip rfl rfl ?_
     refine RD.skip rfl rfl ?_
     refine RD.skip rfl rfl ?_
     refine RD.q (.bool false) ?_
     refine RD.m rfl ?_
     refine RD.skip rfl rfl ?_
     refine RD.skip rfl rfl ?_
     refine RD.skip rfl rfl ?_
     refine RD.q (.bool false) ?_
     refine RD.m rfl ?_
     refine RD.done rfl ?_
     refine WK.ret ?_
     subst hR
     exact RetQ.fr [] (.inr rfl) rfl rfl rfl rfl
    ·rw [hb10]; try simp only [hb10, cond_true, cond_false, Bool.true_and, Bool.false_and, Bool.true_or, Bool.false_or, Bool.not_true, Bool.not_false] at hR
     refine RD.q (.agg (TWorld.c c47a)) ?_
     generalize hc60 : F13_crossroadslaw28_plain c47a = c60 at hR
     have hpo0_c60 := post_i13 c47a (by omega); rw [hc60] at hpo0_c60
     try dsimp only at hR
     refine RD.callp (r := .agg [.ro 3 (c60.D.map TDomain.c)]) rfl rfl rfl (f13_ok c47a (by omega) _ hc60) rfl rfl ?_
     refine RD.q (.agg (TWorld.c c54a)) ?_
     generalize hc62 : F12_crossroadsref28_Same c60 c54a = c62 at hR
     try dsimp only at hR
     refine RD.callp (r := .bool c62) rfl rfl rfl (f12_ok c60 c54a _ hc62) rfl rfl ?_
     refine RD.q (.bool c62) ?_
     refine RD.m rfl ?_
     rcases bool_two (c62) with hb11 | hb11
     ·rw [hb11]; try simp only [hb11, cond_true, cond_false, Bool.true_and, Bool.false_and, Bool.true_or, Bool.false_or, Bool.not_true, Bool.not_false] at hR
      refine RD.skip rfl rfl ?_
      refine RD.skip rfl rfl ?_
      refine RD.skip rfl rfl ?_
      refine RD.q (.bool false) ?_
      refine RD.m rfl ?_
      refine RD.done rfl ?_
      refine WK.ret ?_
      subst hR
      exact RetQ.fr [] (.inr rfl) rfl rfl rfl rfl
     ·rw [hb11]; try simp only [hb11, cond_true, cond_false, Bool.true_and, Bool.false_and, Bool.true_or, Bool.false_or, Bool.not_true, Bool.not_false] at hR
      refine RD.m rfl ?_
      refine RD.m rfl ?_
      refine RD.q (.bool (decide (c47b = c54b))) ?_
      refine RD.q (.bool (decide (c47b = c54b))) ?_
      refine RD.m rfl ?_
      refine RD.done rfl ?_
      refine WK.ret ?_
      subst hR
      exact RetQ.fr [] (.inr rfl) rfl rfl rfl rfl
   ·rw [hb9]
    obtain ⟨x10, hx8, hd8, hlt8⟩ := drop_more hb9
    rw [hd8, F5_crossroadslaw28_RedistSweep_l1] at hL_8
    refine WK.condT rfl ?_
    refine WK.skip ?_
    refine WK.seq ?_
    refine WK.blockK (fun _ hK12 => ?_)
    refine WK.regx mixed ?_
    refine GX.m rfl ?_
    refine GX.m rfl ?_
    refine GX.m rfl ?_
    refine GX.idxT (c := TBorder.c) (x := x10) rfl rfl rfl (Int.natCast_nonneg _) hx8 ?_
    refine GX.q (.agg (TBorder.c x10)) ?_
    generalize hc41 : F14_crossroadslaw28_border x10 = c41 at hL_8
    try dsimp only at hL_8
    refine GX.callp (r := .agg [.int .i64 c41.From, .int .i64 c41.To, .bool c41.Provider]) rfl rfl rfl (f14_ok x10 _ hc41) rfl rfl ?_
    refine GX.step (v' := .own 2 3 0 (([c41] : List TBorder)).length) (heap' := [(0, .box (TWorld.c c18a)), (1, .row 3 55 (k9.map TBorder.c)), (2, .row 3 55 (([c41] : List TBorder).map TBorder.c))]) (next' := 3) rfl rfl rfl rfl rfl rfl rfl ?_
    refine GX.appT (c := TBorder.c) (L := k9) (X := ([c41] : List TBorder)) (heap' := [(0, .box (TWorld.c c18a)), (2, .row 3 55 (([c41] : List TBorder).map TBorder.c)), (3, .row 3 55 ((k9 ++ ([c41] : List TBorder)).map TBorder.c))]) (next' := 4) rfl rfl rfl rfl (elems_own rfl) (by ((try simp only [List.length_append, List.length_cons, List.length_nil, List.length_map, decide_eq_true_eq, decide_eq_false_iff_not] at *) <;> omega)) (by ((try simp only [List.length_append, List.length_cons, List.length_nil, List.length_map, decide_eq_true_eq, decide_eq_false_iff_not] at *) <;> omega)) rfl rfl rfl rfl ?_
    refine GX.m rfl ?_
    refine GX.done ?_
    refine WK.nil (QF.normal (hK12 _ ?_))
    refine WK.regx mixed ?_
    refine GX.m rfl ?_
    refine GX.pure (v' := .int .i64 ((i10 + 1 : Nat) : Int)) rfl rfl rfl rfl (congrArg (PVal.int .i64) (wrap_up hlt8 hlen_8)) ?_
    refine GX.m rfl ?_
    refine GX.done ?_
    refine WK.nil (QF.normal ?_)
    exact hagain_8 _ (l2.length - (i10 + 1)) ⟨[(2, .ro 3 (l2.map TBorder.c)), (7, .ptr 0 0), (9, .own 1 3 0 (k9 ++ ([c41] : List TBorder)).length), (10, .int .i64 ((i10 + 1) : Int))], [(0, .box (TWorld.c c18a)), (1, .row 3 55 ((k9 ++ ([c41] : List TBorder)).map TBorder.c))], 2⟩ (by omega) (Conv.keep [0, 3] [] [2, 7, 9, 10] rfl rfl (viewE_cons rfl rfl (viewE_cons rfl rfl (viewE_cons rfl rfl (viewE_cons rfl rfl viewE_nil)))) rfl rfl) ⟨i10 + 1, (k9 ++ ([c41] : List TBorder)), (by omega), rfl, (by ((try simp only [List.length_append, List.length_cons, List.length_nil, decide_eq_true_eq] at *) <;> first | omega | (rw [wrap64_of (by omega) (by omega)]; omega))), hL_8, rfl⟩
  ·rw [hb2]; try simp only [hb2, cond_true, cond_false, Bool.true_and, Bool.false_and, Bool.true_or, Bool.false_or, Bool.not_true, Bool.not_false] at hR
   refine WK.condT rfl ?_
   refine WK.sr mixed ?_
   generalize hc28 : F8_crossroadslaw28_alive = c28 at hR
   try dsimp only at hR
   refine GX.callp (r := .bool c28) rfl rfl rfl (f8_ok  _ hc28) rfl rfl ?_
   refine GX.m rfl ?_
   refine GX.done ?_
   refine WK.ret ?_
   subst hR
   exact RetQ.fr [] (.inr rfl) rfl rfl rfl rfl

end Go.Proofs.Ytlemcljcmfphcaa.Abs
