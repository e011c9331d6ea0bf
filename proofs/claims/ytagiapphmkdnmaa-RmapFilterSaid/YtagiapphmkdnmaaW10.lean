/- The functions walked: each computes its Lean function (printed by this work's own program gen.py). -/
import Derived.Test.YtagiapphmkdnmaaW9
set_option linter.unusedVariables false
set_option linter.unusedSimpArgs false
set_option maxRecDepth 10000
set_option maxHeartbeats 4000000
namespace Go.Proofs.Ytagiapphmkdnmaa.Abs
open Go

theorem f5_ok (m0 : List TClause) (n1 : List TClause) (t2 : TRoute) (R : Bool) (hR : F5_crossroadslaw08_RmapEval m0 n1 t2 = R) : FnOk Try.prog 5 [.ro 12 (m0.map TClause.c), .ro 12 (n1.map TClause.c), .agg (TRoute.c t2)] [] 0 (.bool R) [] 0 := by
  refine FnOk.wk i5 rfl rfl ?_
  unfold F5_crossroadslaw08_RmapEval at hR
  change WK _ _ _ [ac5] _ ⟨[(0, .ro 12 (m0.map TClause.c)), (1, .ro 12 (n1.map TClause.c)), (2, .agg (TRoute.c t2))], [], 0⟩
  unfold ac5
  refine WK.seq ?_
  refine WK.regx mixed ?_
  refine GX.step (v' := .ptr 0 0) (heap' := [(0, .box (TRoute.c t2))]) (next' := 1) rfl rfl rfl rfl rfl rfl rfl ?_
  refine GX.pure (v' := .bool false) rfl rfl rfl rfl rfl ?_
  refine GX.done ?_
  refine WK.seq ?_
  refine WK.seq ?_
  refine WK.regx mixed ?_
  refine GX.pure (v' := .ro 12 (m0.map TClause.c)) rfl rfl rfl rfl rfl ?_
  generalize hc18 : F7_crossroadslaw08_small m0 = c18 at hR
  try dsimp only at hR
  refine GX.callp (r := .bool c18) rfl rfl rfl (f7_ok m0 _ hc18) rfl rfl ?_
  refine GX.pure (v' := .bool (!c18)) rfl rfl rfl rfl rfl ?_
  refine GX.pure (v' := .bool (!c18)) rfl rfl rfl rfl rfl ?_
  rcases bool_two (c18) with hb1 | hb1
  · rw [hb1]; try simp only [hb1, cond_true, cond_false, Bool.true_and, Bool.false_and, Bool.true_or, Bool.false_or, Bool.not_true, Bool.not_false] at hR
    refine GX.skip rfl rfl ?_
    refine GX.skip rfl rfl ?_
    refine GX.skip rfl rfl ?_
    refine GX.pure (v' := .bool true) rfl rfl rfl rfl rfl ?_
    refine GX.pure (v' := .bool true) rfl rfl rfl rfl rfl ?_
    refine GX.skip rfl rfl ?_
    refine GX.skip rfl rfl ?_
    refine GX.skip rfl rfl ?_
    refine GX.skip rfl rfl ?_
    refine GX.pure (v' := .bool true) rfl rfl rfl rfl rfl ?_
    refine GX.pure (v' := .bool true) rfl rfl rfl rfl rfl ?_
    refine GX.skip rfl rfl ?_
    refine GX.skip rfl rfl ?_
    refine GX.skip rfl rfl ?_
    refine GX.skip rfl rfl ?_
    refine GX.pure (v' := .bool true) rfl rfl rfl rfl rfl ?_
    refine GX.pure (v' := .bool true) rfl rfl rfl rfl rfl ?_
    refine GX.skip rfl rfl ?_
    refine GX.skip rfl rfl ?_
    refine GX.skip rfl rfl ?_
    refine GX.skip rfl rfl ?_
    refine GX.pure (v' := .bool true) rfl rfl rfl rfl rfl ?_
    refine GX.done ?_
    refine WK.condT rfl ?_
    refine WK.seq ?_
    refine WK.regx mixed ?_
    generalize hc43 : F12_crossroadslaw08_alive = c43 at hR
    try dsimp only at hR
    refine GX.callp (r := .bool c43) rfl rfl rfl (f12_ok  _ hc43) rfl rfl ?_
    refine GX.pure (v' := .bool c43) rfl rfl rfl rfl rfl ?_
    refine GX.done ?_
    refine WK.ret ?_
    subst hR
    exact RetQ.fr [] (.inr rfl) rfl rfl rfl rfl
  · rw [hb1]; try simp only [hb1, cond_true, cond_false, Bool.true_and, Bool.false_and, Bool.true_or, Bool.false_or, Bool.not_true, Bool.not_false] at hR
    refine GX.pure (v' := .ro 12 (n1.map TClause.c)) rfl rfl rfl rfl rfl ?_
    generalize hc22 : F7_crossroadslaw08_small n1 = c22 at hR
    try dsimp only at hR
    refine GX.callp (r := .bool c22) rfl rfl rfl (f7_ok n1 _ hc22) rfl rfl ?_
    refine GX.pure (v' := .bool (!c22)) rfl rfl rfl rfl rfl ?_
    refine GX.pure (v' := .bool (!c22)) rfl rfl rfl rfl rfl ?_
    refine GX.pure (v' := .bool (!c22)) rfl rfl rfl rfl rfl ?_
    rcases bool_two (c22) with hb2 | hb2
    · rw [hb2]; try simp only [hb2, cond_true, cond_false, Bool.true_and, Bool.false_and, Bool.true_or, Bool.false_or, Bool.not_true, Bool.not_false] at hR
      refine GX.skip rfl rfl ?_
      refine GX.skip rfl rfl ?_
      refine GX.skip rfl rfl ?_
      refine GX.skip rfl rfl ?_
      refine GX.pure (v' := .bool true) rfl rfl rfl rfl rfl ?_
      refine GX.pure (v' := .bool true) rfl rfl rfl rfl rfl ?_
      refine GX.skip rfl rfl ?_
      refine GX.skip rfl rfl ?_
      refine GX.skip rfl rfl ?_
      refine GX.skip rfl rfl ?_
      refine GX.pure (v' := .bool true) rfl rfl rfl rfl rfl ?_
      refine GX.pure (v' := .bool true) rfl rfl rfl rfl rfl ?_
      refine GX.skip rfl rfl ?_
      refine GX.skip rfl rfl ?_
      refine GX.skip rfl rfl ?_
      refine GX.skip rfl rfl ?_
      refine GX.pure (v' := .bool true) rfl rfl rfl rfl rfl ?_
      refine GX.done ?_
      refine WK.condT rfl ?_
      refine WK.seq ?_
      refine WK.regx mixed ?_
      generalize hc43 : F12_crossroadslaw08_alive = c43 at hR
      try dsimp only at hR
      refine GX.callp (r := .bool c43) rfl rfl rfl (f12_ok  _ hc43) rfl rfl ?_
      refine GX.pure (v' := .bool c43) rfl rfl rfl rfl rfl ?_
      refine GX.done ?_
      refine WK.ret ?_
      subst hR
      exact RetQ.fr [] (.inr rfl) rfl rfl rfl rfl
    · rw [hb2]; try simp only [hb2, cond_true, cond_false, Bool.true_and, Bool.false_and, Bool.true_or, Bool.false_or, Bool.not_true, Bool.not_false] at hR
      refine GX.pure (v' := .ro 12 (m0.map TClause.c)) rfl rfl rfl rfl rfl ?_
      generalize hc27 : F9_crossroadslaw08_rows m0 = c27 at hR
      try dsimp only at hR
      refine GX.callp (r := .ro 12 (c27.map TClause.c)) rfl rfl rfl (f9_ok m0 (by first | omega | assumption | ((try simp only [List.length_append, List.length_cons, List.length_nil, List.length_map, decide_eq_true_eq, decide_eq_false_iff_not] at *) <;> omega) | exact hp0 _ (List.mem_of_getElem? (by assumption)) | exact hp1 _ (List.mem_of_getElem? (by assumption)) | exact hp2 _ (List.mem_of_getElem? (by assumption)) | exact hp3 _ (List.mem_of_getElem? (by assumption)) | exact hp4 _ (List.mem_of_getElem? (by assumption)) | exact hp5 _ (List.mem_of_getElem? (by assumption)) | exact small_len (by assumption) (by assumption) | exact small_rules (by assumption) (by assumption) | exact small_rules (by assumption) (by assumption) _ (List.mem_of_getElem? (by assumption)) | (have hszf := small_len (by assumption) (by assumption); (try simp only [List.length_append, List.length_cons, List.length_nil, List.length_map] at *) <;> omega)) (by first | omega | assumption | ((try simp only [List.length_append, List.length_cons, List.length_nil, List.length_map, decide_eq_true_eq, decide_eq_false_iff_not] at *) <;> omega) | exact hp0 _ (List.mem_of_getElem? (by assumption)) | exact hp1 _ (List.mem_of_getElem? (by assumption)) | exact hp2 _ (List.mem_of_getElem? (by assumption)) | exact hp3 _ (List.mem_of_getElem? (by assumption)) | exact hp4 _ (List.mem_of_getElem? (by assumption)) | exact hp5 _ (List.mem_of_getElem? (by assumption)) | exact small_len (by assumption) (by assumption) | exact small_rules (by assumption) (by assumption) | exact small_rules (by assumption) (by assumption) _ (List.mem_of_getElem? (by assumption)) | (have hszf := small_len (by assumption) (by assumption); (try simp only [List.length_append, List.length_cons, List.length_nil, List.length_map] at *) <;> omega)) _ hc27) rfl rfl ?_
      generalize hc28 : F8_crossroadsref08_MayAll c27 = c28 at hR
      try dsimp only at hR
      refine GX.callp (r := .bool c28) rfl rfl rfl (f8_ok c27 _ hc28) rfl rfl ?_
      refine GX.pure (v' := .bool (!c28)) rfl rfl rfl rfl rfl ?_
      refine GX.pure (v' := .bool (!c28)) rfl rfl rfl rfl rfl ?_
      refine GX.pure (v' := .bool (!c28)) rfl rfl rfl rfl rfl ?_
      rcases bool_two (c28) with hb3 | hb3
      · rw [hb3]; try simp only [hb3, cond_true, cond_false, Bool.true_and, Bool.false_and, Bool.true_or, Bool.false_or, Bool.not_true, Bool.not_false] at hR
        refine GX.skip rfl rfl ?_
        refine GX.skip rfl rfl ?_
        refine GX.skip rfl rfl ?_
        refine GX.skip rfl rfl ?_
        refine GX.pure (v' := .bool true) rfl rfl rfl rfl rfl ?_
        refine GX.pure (v' := .bool true) rfl rfl rfl rfl rfl ?_
        refine GX.skip rfl rfl ?_
        refine GX.skip rfl rfl ?_
        refine GX.skip rfl rfl ?_
        refine GX.skip rfl rfl ?_
        refine GX.pure (v' := .bool true) rfl rfl rfl rfl rfl ?_
        refine GX.done ?_
        refine WK.condT rfl ?_
        refine WK.seq ?_
        refine WK.regx mixed ?_
        generalize hc43 : F12_crossroadslaw08_alive = c43 at hR
        try dsimp only at hR
        refine GX.callp (r := .bool c43) rfl rfl rfl (f12_ok  _ hc43) rfl rfl ?_
        refine GX.pure (v' := .bool c43) rfl rfl rfl rfl rfl ?_
        refine GX.done ?_
        refine WK.ret ?_
        subst hR
        exact RetQ.fr [] (.inr rfl) rfl rfl rfl rfl
      · rw [hb3]; try simp only [hb3, cond_true, cond_false, Bool.true_and, Bool.false_and, Bool.true_or, Bool.false_or, Bool.not_true, Bool.not_false] at hR
        refine GX.pure (v' := .ro 12 (n1.map TClause.c)) rfl rfl rfl rfl rfl ?_
        generalize hc33 : F9_crossroadslaw08_rows n1 = c33 at hR
        try dsimp only at hR
        refine GX.callp (r := .ro 12 (c33.map TClause.c)) rfl rfl rfl (f9_ok n1 (by first | omega | assumption | ((try simp only [List.length_append, List.length_cons, List.length_nil, List.length_map, decide_eq_true_eq, decide_eq_false_iff_not] at *) <;> omega) | exact hp0 _ (List.mem_of_getElem? (by assumption)) | exact hp1 _ (List.mem_of_getElem? (by assumption)) | exact hp2 _ (List.mem_of_getElem? (by assumption)) | exact hp3 _ (List.mem_of_getElem? (by assumption)) | exact hp4 _ (List.mem_of_getElem? (by assumption)) | exact hp5 _ (List.mem_of_getElem? (by assumption)) | exact small_len (by assumption) (by assumption) | exact small_rules (by assumption) (by assumption) | exact small_rules (by assumption) (by assumption) _ (List.mem_of_getElem? (by assumption)) | (have hszf := small_len (by assumption) (by assumption); (try simp only [List.length_append, List.length_cons, List.length_nil, List.length_map] at *) <;> omega)) (by first | omega | assumption | ((try simp only [List.length_append, List.length_cons, List.length_nil, List.length_map, decide_eq_true_eq, decide_eq_false_iff_not] at *) <;> omega) | exact hp0 _ (List.mem_of_getElem? (by assumption)) | exact hp1 _ (List.mem_of_getElem? (by assumption)) | exact hp2 _ (List.mem_of_getElem? (by assumption)) | exact hp3 _ (List.mem_of_getElem? (by assumption)) | exact hp4 _ (List.mem_of_getElem? (by assumption)) | exact hp5 _ (List.mem_of_getElem? (by assumption)) | exact small_len (by assumption) (by assumption) | exact small_rules (by assumption) (by assumption) | exact small_rules (by assumption) (by assumption) _ (List.mem_of_getElem? (by assumption)) | (have hszf := small_len (by assumption) (by assumption); (try simp only [List.length_append, List.length_cons, List.length_nil, List.length_map] at *) <;> omega)) _ hc33) rfl rfl ?_
        generalize hc34 : F8_crossroadsref08_MayAll c33 = c34 at hR
        try dsimp only at hR
        refine GX.callp (r := .bool c34) rfl rfl rfl (f8_ok c33 _ hc34) rfl rfl ?_
        refine GX.pure (v' := .bool (!c34)) rfl rfl rfl rfl rfl ?_
        refine GX.pure (v' := .bool (!c34)) rfl rfl rfl rfl rfl ?_
        refine GX.pure (v' := .bool (!c34)) rfl rfl rfl rfl rfl ?_
        rcases bool_two (c34) with hb4 | hb4
        · rw [hb4]; try simp only [hb4, cond_true, cond_false, Bool.true_and, Bool.false_and, Bool.true_or, Bool.false_or, Bool.not_true, Bool.not_false] at hR
          refine GX.skip rfl rfl ?_
          refine GX.skip rfl rfl ?_
          refine GX.skip rfl rfl ?_
          refine GX.skip rfl rfl ?_
          refine GX.pure (v' := .bool true) rfl rfl rfl rfl rfl ?_
          refine GX.done ?_
          refine WK.condT rfl ?_
          refine WK.seq ?_
          refine WK.regx mixed ?_
          generalize hc43 : F12_crossroadslaw08_alive = c43 at hR
          try dsimp only at hR
          refine GX.callp (r := .bool c43) rfl rfl rfl (f12_ok  _ hc43) rfl rfl ?_
          refine GX.pure (v' := .bool c43) rfl rfl rfl rfl rfl ?_
          refine GX.done ?_
          refine WK.ret ?_
          subst hR
          exact RetQ.fr [] (.inr rfl) rfl rfl rfl rfl
        · rw [hb4]; try simp only [hb4, cond_true, cond_false, Bool.true_and, Bool.false_and, Bool.true_or, Bool.false_or, Bool.not_true, Bool.not_false] at hR
          refine GX.pure (v' := .agg (TRoute.c t2)) rfl rfl rfl rfl rfl ?_
          generalize hc39 : F11_crossroadslaw08_route t2 = c39 at hR
          try dsimp only at hR
          refine GX.callp (r := .agg [.int .u32 c39.P.A, .int .i64 c39.P.N, .int .i64 c39.Kind, .int .i64 c39.Cost, .int .u32 c39.Tag]) rfl rfl rfl (f11_ok t2 _ hc39) rfl rfl ?_
          generalize hc40 : F10_crossroadsref08_MayRoute c39 = c40 at hR
          try dsimp only at hR
          refine GX.callp (r := .bool c40) rfl rfl rfl (f10_ok c39 _ hc40) rfl rfl ?_
          refine GX.pure (v' := .bool (!c40)) rfl rfl rfl rfl rfl ?_
          refine GX.pure (v' := .bool (!c40)) rfl rfl rfl rfl rfl ?_
          refine GX.done ?_
          rcases bool_two (c40) with hb5 | hb5
          · rw [hb5]; try simp only [hb5, cond_true, cond_false, Bool.true_and, Bool.false_and, Bool.true_or, Bool.false_or, Bool.not_true, Bool.not_false] at hR
            refine WK.condT rfl ?_
            refine WK.seq ?_
            refine WK.regx mixed ?_
            generalize hc43 : F12_crossroadslaw08_alive = c43 at hR
            try dsimp only at hR
            refine GX.callp (r := .bool c43) rfl rfl rfl (f12_ok  _ hc43) rfl rfl ?_
            refine GX.pure (v' := .bool c43) rfl rfl rfl rfl rfl ?_
            refine GX.done ?_
            refine WK.ret ?_
            subst hR
            exact RetQ.fr [] (.inr rfl) rfl rfl rfl rfl
          · rw [hb5]; try simp only [hb5, cond_true, cond_false, Bool.true_and, Bool.false_and, Bool.true_or, Bool.false_or, Bool.not_true, Bool.not_false] at hR
            refine WK.condF rfl ?_
            refine WK.skip ?_
            refine WK.seq ?_
            refine WK.regx mixed ?_
            refine GX.pure (v' := .ro 12 (m0.map TClause.c)) rfl rfl rfl rfl rfl ?_
            refine GX.pure (v' := .agg (TRoute.c t2)) rfl rfl rfl rfl rfl ?_
            generalize hc47 : F13_rmap_Eval m0 t2 = c47 at hR
            obtain ⟨c47a, c47b, c47c⟩ := c47; try dsimp only at hR
            refine GX.callp (r := .tup [.agg [.int .u32 c47a.P.A, .int .i64 c47a.P.N, .int .i64 c47a.Kind, .int .i64 c47a.Cost, .int .u32 c47a.Tag], .bool c47b, .int .i64 c47c]) rfl rfl rfl (f13_ok m0 t2 _ hc47) rfl rfl ?_
            refine GX.pure (v' := .tup [.agg [.int .u32 c47a.P.A, .int .i64 c47a.P.N, .int .i64 c47a.Kind, .int .i64 c47a.Cost, .int .u32 c47a.Tag], .bool c47b, .int .i64 c47c]) rfl rfl rfl rfl rfl ?_
            refine GX.pure (v' := .agg [.int .u32 c47a.P.A, .int .i64 c47a.P.N, .int .i64 c47a.Kind, .int .i64 c47a.Cost, .int .u32 c47a.Tag]) rfl rfl rfl rfl rfl ?_
            refine GX.pure (v' := .bool c47b) rfl rfl rfl rfl rfl ?_
            refine GX.pure (v' := .int .i64 c47c) rfl rfl rfl rfl rfl ?_
            refine GX.step (v' := .ptr 1 0) (heap' := [(0, .box (TRoute.c t2)), (1, .box [.int .u32 0, .int .i64 0, .int .i64 0, .int .i64 0, .int .u32 0])]) (next' := 2) rfl rfl rfl rfl rfl rfl rfl ?_
            refine GX.step0 (heap' := [(0, .box (TRoute.c t2)), (1, .box (TRoute.c c47a))]) (next' := 2) rfl rfl rfl rfl rfl ?_
            refine GX.pure (v' := .bool c47b) rfl rfl rfl rfl rfl ?_
            refine GX.pure (v' := .int .i64 c47c) rfl rfl rfl rfl rfl ?_
            refine GX.done ?_
            refine WK.seq ?_
            refine WK.drawn mixed ?_
            refine RD.pure (v' := .ro 12 (m0.map TClause.c)) rfl rfl rfl rfl rfl ?_
            refine RD.callp (r := .ro 12 (c27.map TClause.c)) rfl rfl rfl (f9_ok m0 (by first | omega | assumption | ((try simp only [List.length_append, List.length_cons, List.length_nil, List.length_map, decide_eq_true_eq, decide_eq_false_iff_not] at *) <;> omega) | exact hp0 _ (List.mem_of_getElem? (by assumption)) | exact hp1 _ (List.mem_of_getElem? (by assumption)) | exact hp2 _ (List.mem_of_getElem? (by assumption)) | exact hp3 _ (List.mem_of_getElem? (by assumption)) | exact hp4 _ (List.mem_of_getElem? (by assumption)) | exact hp5 _ (List.mem_of_getElem? (by assumption)) | exact small_len (by assumption) (by assumption) | exact small_rules (by assumption) (by assumption) | exact small_rules (by assumption) (by assumption) _ (List.mem_of_getElem? (by assumption)) | (have hszf := small_len (by assumption) (by assumption); (try simp only [List.length_append, List.length_cons, List.length_nil, List.length_map] at *) <;> omega)) (by first | omega | assumption | ((try simp only [List.length_append, List.length_cons, List.length_nil, List.length_map, decide_eq_true_eq, decide_eq_false_iff_not] at *) <;> omega) | exact hp0 _ (List.mem_of_getElem? (by assumption)) | exact hp1 _ (List.mem_of_getElem? (by assumption)) | exact hp2 _ (List.mem_of_getElem? (by assumption)) | exact hp3 _ (List.mem_of_getElem? (by assumption)) | exact hp4 _ (List.mem_of_getElem? (by assumption)) | exact hp5 _ (List.mem_of_getElem? (by assumption)) | exact small_len (by assumption) (by assumption) | exact small_rules (by assumption) (by assumption) | exact small_rules (by assumption) (by assumption) _ (List.mem_of_getElem? (by assumption)) | (have hszf := small_len (by assumption) (by assumption); (try simp only [List.length_append, List.length_cons, List.length_nil, List.length_map] at *) <;> omega)) _ hc27) rfl rfl ?_
            refine RD.pure (v' := .agg (TRoute.c t2)) rfl rfl rfl rfl rfl ?_
            refine RD.callp (r := .agg [.int .u32 c39.P.A, .int .i64 c39.P.N, .int .i64 c39.Kind, .int .i64 c39.Cost, .int .u32 c39.Tag]) rfl rfl rfl (f11_ok t2 _ hc39) rfl rfl ?_
            generalize hc56 : F22_crossroadsref08_Eval c27 c39 = c56 at hR
            obtain ⟨c56a, c56b, c56c⟩ := c56; try dsimp only at hR
            refine RD.callp (r := .tup [.agg [.int .u32 c56a.P.A, .int .i64 c56a.P.N, .int .i64 c56a.Kind, .int .i64 c56a.Cost, .int .u32 c56a.Tag], .bool c56b, .int .i64 c56c]) rfl rfl rfl (f22_ok c27 c39 _ hc56) rfl rfl ?_
            refine RD.pure (v' := .tup [.agg [.int .u32 c56a.P.A, .int .i64 c56a.P.N, .int .i64 c56a.Kind, .int .i64 c56a.Cost, .int .u32 c56a.Tag], .bool c56b, .int .i64 c56c]) rfl rfl rfl rfl rfl ?_
            refine RD.pure (v' := .agg [.int .u32 c56a.P.A, .int .i64 c56a.P.N, .int .i64 c56a.Kind, .int .i64 c56a.Cost, .int .u32 c56a.Tag]) rfl rfl rfl rfl rfl ?_
            refine RD.pure (v' := .bool c56b) rfl rfl rfl rfl rfl ?_
            refine RD.pure (v' := .int .i64 c56c) rfl rfl rfl rfl rfl ?_
            refine RD.step (v' := .ptr 2 0) (heap' := [(0, .box (TRoute.c t2)), (1, .box (TRoute.c c47a)), (2, .box [.int .u32 0, .int .i64 0, .int .i64 0, .int .i64 0, .int .u32 0])]) (next' := 3) rfl rfl rfl rfl rfl rfl rfl ?_
            refine RD.step0 (heap' := [(0, .box (TRoute.c t2)), (1, .box (TRoute.c c47a)), (2, .box (TRoute.c c56a))]) (next' := 3) rfl rfl rfl rfl rfl ?_
            refine RD.pure (v' := .bool c56b) rfl rfl rfl rfl rfl ?_
            refine RD.pure (v' := .int .i64 c56c) rfl rfl rfl rfl rfl ?_
            refine RD.done rfl ?_
            refine WK.seq ?_
            refine WK.regx mixed ?_
            refine GX.pure (v' := .ro 12 (m0.map TClause.c)) rfl rfl rfl rfl rfl ?_
            refine GX.pure (v' := .ro 12 (n1.map TClause.c)) rfl rfl rfl rfl rfl ?_
            refine GX.pure (v' := .agg (TRoute.c t2)) rfl rfl rfl rfl rfl ?_
            generalize hc64 : F23_rmap_Then m0 n1 t2 = c64 at hR
            obtain ⟨c64a, c64b⟩ := c64; try dsimp only at hR
            refine GX.callp (r := .tup [.agg [.int .u32 c64a.P.A, .int .i64 c64a.P.N, .int .i64 c64a.Kind, .int .i64 c64a.Cost, .int .u32 c64a.Tag], .bool c64b]) rfl rfl rfl (f23_ok m0 n1 t2 _ hc64) rfl rfl ?_
            refine GX.pure (v' := .tup [.agg [.int .u32 c64a.P.A, .int .i64 c64a.P.N, .int .i64 c64a.Kind, .int .i64 c64a.Cost, .int .u32 c64a.Tag], .bool c64b]) rfl rfl rfl rfl rfl ?_
            refine GX.pure (v' := .agg [.int .u32 c64a.P.A, .int .i64 c64a.P.N, .int .i64 c64a.Kind, .int .i64 c64a.Cost, .int .u32 c64a.Tag]) rfl rfl rfl rfl rfl ?_
            refine GX.pure (v' := .bool c64b) rfl rfl rfl rfl rfl ?_
            refine GX.step (v' := .ptr 3 0) (heap' := [(0, .box (TRoute.c t2)), (1, .box (TRoute.c c47a)), (2, .box (TRoute.c c56a)), (3, .box [.int .u32 0, .int .i64 0, .int .i64 0, .int .i64 0, .int .u32 0])]) (next' := 4) rfl rfl rfl rfl rfl rfl rfl ?_
            refine GX.step0 (heap' := [(0, .box (TRoute.c t2)), (1, .box (TRoute.c c47a)), (2, .box (TRoute.c c56a)), (3, .box (TRoute.c c64a))]) (next' := 4) rfl rfl rfl rfl rfl ?_
            refine GX.pure (v' := .bool c64b) rfl rfl rfl rfl rfl ?_
            refine GX.done ?_
            refine WK.seq ?_
            refine WK.drawn mixed ?_
            refine RD.pure (v' := .ro 12 (m0.map TClause.c)) rfl rfl rfl rfl rfl ?_
            refine RD.callp (r := .ro 12 (c27.map TClause.c)) rfl rfl rfl (f9_ok m0 (by first | omega | assumption | ((try simp only [List.length_append, List.length_cons, List.length_nil, List.length_map, decide_eq_true_eq, decide_eq_false_iff_not] at *) <;> omega) | exact hp0 _ (List.mem_of_getElem? (by assumption)) | exact hp1 _ (List.mem_of_getElem? (by assumption)) | exact hp2 _ (List.mem_of_getElem? (by assumption)) | exact hp3 _ (List.mem_of_getElem? (by assumption)) | exact hp4 _ (List.mem_of_getElem? (by assumption)) | exact hp5 _ (List.mem_of_getElem? (by assumption)) | exact small_len (by assumption) (by assumption) | exact small_rules (by assumption) (by assumption) | exact small_rules (by assumption) (by assumption) _ (List.mem_of_getElem? (by assumption)) | (have hszf := small_len (by assumption) (by assumption); (try simp only [List.length_append, List.length_cons, List.length_nil, List.length_map] at *) <;> omega)) (by first | omega | assumption | ((try simp only [List.length_append, List.length_cons, List.length_nil, List.length_map, decide_eq_true_eq, decide_eq_false_iff_not] at *) <;> omega) | exact hp0 _ (List.mem_of_getElem? (by assumption)) | exact hp1 _ (List.mem_of_getElem? (by assumption)) | exact hp2 _ (List.mem_of_getElem? (by assumption)) | exact hp3 _ (List.mem_of_getElem? (by assumption)) | exact hp4 _ (List.mem_of_getElem? (by assumption)) | exact hp5 _ (List.mem_of_getElem? (by assumption)) | exact small_len (by assumption) (by assumption) | exact small_rules (by assumption) (by assumption) | exact small_rules (by assumption) (by assumption) _ (List.mem_of_getElem? (by assumption)) | (have hszf := small_len (by assumption) (by assumption); (try simp only [List.length_append, List.length_cons, List.length_nil, List.length_map] at *) <;> omega)) _ hc27) rfl rfl ?_
            refine RD.pure (v' := .ro 12 (n1.map TClause.c)) rfl rfl rfl rfl rfl ?_
            refine RD.callp (r := .ro 12 (c33.map TClause.c)) rfl rfl rfl (f9_ok n1 (by first | omega | assumption | ((try simp only [List.length_append, List.length_cons, List.length_nil, List.length_map, decide_eq_true_eq, decide_eq_false_iff_not] at *) <;> omega) | exact hp0 _ (List.mem_of_getElem? (by assumption)) | exact hp1 _ (List.mem_of_getElem? (by assumption)) | exact hp2 _ (List.mem_of_getElem? (by assumption)) | exact hp3 _ (List.mem_of_getElem? (by assumption)) | exact hp4 _ (List.mem_of_getElem? (by assumption)) | exact hp5 _ (List.mem_of_getElem? (by assumption)) | exact small_len (by assumption) (by assumption) | exact small_rules (by assumption) (by assumption) | exact small_rules (by assumption) (by assumption) _ (List.mem_of_getElem? (by assumption)) | (have hszf := small_len (by assumption) (by assumption); (try simp only [List.length_append, List.length_cons, List.length_nil, List.length_map] at *) <;> omega)) (by first | omega | assumption | ((try simp only [List.length_append, List.length_cons, List.length_nil, List.length_map, decide_eq_true_eq, decide_eq_false_iff_not] at *) <;> omega) | exact hp0 _ (List.mem_of_getElem? (by assumption)) | exact hp1 _ (List.mem_of_getElem? (by assumption)) | exact hp2 _ (List.mem_of_getElem? (by assumption)) | exact hp3 _ (List.mem_of_getElem? (by assumption)) | exact hp4 _ (List.mem_of_getElem? (by assumption)) | exact hp5 _ (List.mem_of_getElem? (by assumption)) | exact small_len (by assumption) (by assumption) | exact small_rules (by assumption) (by assumption) | exact small_rules (by assumption) (by assumption) _ (List.mem_of_getElem? (by assumption)) | (have hszf := small_len (by assumption) (by assumption); (try simp only [List.length_append, List.length_cons, List.length_nil, List.length_map] at *) <;> omega)) _ hc33) rfl rfl ?_
            refine RD.pure (v' := .agg (TRoute.c t2)) rfl rfl rfl rfl rfl ?_
            refine RD.callp (r := .agg [.int .u32 c39.P.A, .int .i64 c39.P.N, .int .i64 c39.Kind, .int .i64 c39.Cost, .int .u32 c39.Tag]) rfl rfl rfl (f11_ok t2 _ hc39) rfl rfl ?_
            generalize hc74 : F24_crossroadsref08_Then c27 c33 c39 = c74 at hR
            obtain ⟨c74a, c74b⟩ := c74; try dsimp only at hR
            refine RD.callp (r := .tup [.agg [.int .u32 c74a.P.A, .int .i64 c74a.P.N, .int .i64 c74a.Kind, .int .i64 c74a.Cost, .int .u32 c74a.Tag], .bool c74b]) rfl rfl rfl (f24_ok c27 c33 c39 _ hc74) rfl rfl ?_
            refine RD.pure (v' := .tup [.agg [.int .u32 c74a.P.A, .int .i64 c74a.P.N, .int .i64 c74a.Kind, .int .i64 c74a.Cost, .int .u32 c74a.Tag], .bool c74b]) rfl rfl rfl rfl rfl ?_
            refine RD.pure (v' := .agg [.int .u32 c74a.P.A, .int .i64 c74a.P.N, .int .i64 c74a.Kind, .int .i64 c74a.Cost, .int .u32 c74a.Tag]) rfl rfl rfl rfl rfl ?_
            refine RD.pure (v' := .bool c74b) rfl rfl rfl rfl rfl ?_
            refine RD.step (v' := .ptr 4 0) (heap' := [(0, .box (TRoute.c t2)), (1, .box (TRoute.c c47a)), (2, .box (TRoute.c c56a)), (3, .box (TRoute.c c64a)), (4, .box [.int .u32 0, .int .i64 0, .int .i64 0, .int .i64 0, .int .u32 0])]) (next' := 5) rfl rfl rfl rfl rfl rfl rfl ?_
            refine RD.step0 (heap' := [(0, .box (TRoute.c t2)), (1, .box (TRoute.c c47a)), (2, .box (TRoute.c c56a)), (3, .box (TRoute.c c64a)), (4, .box (TRoute.c c74a))]) (next' := 5) rfl rfl rfl rfl rfl ?_
            refine RD.pure (v' := .bool c74b) rfl rfl rfl rfl rfl ?_
            refine RD.done rfl ?_
            refine WK.seq ?_
            refine WK.drawn mixed ?_
            generalize hc77 : F12_crossroadslaw08_alive = c77 at hR
            try dsimp only at hR
            refine RD.callp (r := .bool c77) rfl rfl rfl (f12_ok  _ hc77) rfl rfl ?_
            refine RD.pure (v' := .bool c77) rfl rfl rfl rfl rfl ?_
            rcases bool_two (c77) with hb6 | hb6
            · rw [hb6]; try simp only [hb6, cond_true, cond_false, Bool.true_and, Bool.false_and, Bool.true_or, Bool.false_or, Bool.not_true, Bool.not_false] at hR
              refine RD.skip rfl rfl ?_
              refine RD.skip rfl rfl ?_
              refine RD.skip rfl rfl ?_
              refine RD.skip rfl rfl ?_
              refine RD.pure (v' := .bool false) rfl rfl rfl rfl rfl ?_
              refine RD.pure (v' := .bool false) rfl rfl rfl rfl rfl ?_
              refine RD.skip rfl rfl ?_
              refine RD.skip rfl rfl ?_
              refine RD.skip rfl rfl ?_
              refine RD.pure (v' := .bool false) rfl rfl rfl rfl rfl ?_
              refine RD.pure (v' := .bool false) rfl rfl rfl rfl rfl ?_
              refine RD.skip rfl rfl ?_
              refine RD.skip rfl rfl ?_
              refine RD.skip rfl rfl ?_
              refine RD.pure (v' := .bool false) rfl rfl rfl rfl rfl ?_
              refine RD.pure (v' := .bool false) rfl rfl rfl rfl rfl ?_
              refine RD.skip rfl rfl ?_
              refine RD.skip rfl rfl ?_
              refine RD.skip rfl rfl ?_
              refine RD.skip rfl rfl ?_
              refine RD.pure (v' := .bool false) rfl rfl rfl rfl rfl ?_
              refine RD.pure (v' := .bool false) rfl rfl rfl rfl rfl ?_
              refine RD.skip rfl rfl ?_
              refine RD.skip rfl rfl ?_
              refine RD.skip rfl rfl ?_
              refine RD.pure (v' := .bool false) rfl rfl rfl rfl rfl ?_
              refine RD.pure (v' := .bool false) rfl rfl rfl rfl rfl ?_
              refine RD.done rfl ?_
              refine WK.ret ?_
              subst hR
              exact RetQ.fr [] (.inr rfl) rfl rfl rfl rfl
            · rw [hb6]; try simp only [hb6, cond_true, cond_false, Bool.true_and, Bool.false_and, Bool.true_or, Bool.false_or, Bool.not_true, Bool.not_false] at hR
              refine RD.pure (v' := .agg (TRoute.c c47a)) rfl rfl rfl rfl rfl ?_
              generalize hc80 : F11_crossroadslaw08_route c47a = c80 at hR
              try dsimp only at hR
              refine RD.callp (r := .agg [.int .u32 c80.P.A, .int .i64 c80.P.N, .int .i64 c80.Kind, .int .i64 c80.Cost, .int .u32 c80.Tag]) rfl rfl rfl (f11_ok c47a _ hc80) rfl rfl ?_
              refine RD.pure (v' := .agg (TRoute.c c56a)) rfl rfl rfl rfl rfl ?_
              refine RD.pure (v' := .bool (decide (c80.P.A = c56a.P.A) && (decide (c80.P.N = c56a.P.N) && (decide (c80.Kind = c56a.Kind) && (decide (c80.Cost = c56a.Cost) && (decide (c80.Tag = c56a.Tag) && true)))))) rfl rfl rfl rfl rfl ?_
              refine RD.pure (v' := .bool (decide (c80.P.A = c56a.P.A) && (decide (c80.P.N = c56a.P.N) && (decide (c80.Kind = c56a.Kind) && (decide (c80.Cost = c56a.Cost) && (decide (c80.Tag = c56a.Tag) && true)))))) rfl rfl rfl rfl rfl ?_
              refine RD.pure (v' := .bool (decide (c80.P.A = c56a.P.A) && (decide (c80.P.N = c56a.P.N) && (decide (c80.Kind = c56a.Kind) && (decide (c80.Cost = c56a.Cost) && (decide (c80.Tag = c56a.Tag) && true)))))) rfl rfl rfl rfl rfl ?_
              rcases bool_two ((decide (c80.P.A = c56a.P.A) && (decide (c80.P.N = c56a.P.N) && (decide (c80.Kind = c56a.Kind) && (decide (c80.Cost = c56a.Cost) && (decide (c80.Tag = c56a.Tag) && true)))))) with hb7 | hb7
              · rw [hb7]; try simp only [hb7, cond_true, cond_false, Bool.true_and, Bool.false_and, Bool.true_or, Bool.false_or, Bool.not_true, Bool.not_false] at hR
                refine RD.skip rfl rfl ?_
                refine RD.skip rfl rfl ?_
                refine RD.skip rfl rfl ?_
                refine RD.pure (v' := .bool false) rfl rfl rfl rfl rfl ?_
                refine RD.pure (v' := .bool false) rfl rfl rfl rfl rfl ?_
                refine RD.skip rfl rfl ?_
                refine RD.skip rfl rfl ?_
                refine RD.skip rfl rfl ?_
                refine RD.pure (v' := .bool false) rfl rfl rfl rfl rfl ?_
                refine RD.pure (v' := .bool false) rfl rfl rfl rfl rfl ?_
                refine RD.skip rfl rfl ?_
                refine RD.skip rfl rfl ?_
                refine RD.skip rfl rfl ?_
                refine RD.skip rfl rfl ?_
                refine RD.pure (v' := .bool false) rfl rfl rfl rfl rfl ?_
                refine RD.pure (v' := .bool false) rfl rfl rfl rfl rfl ?_
                refine RD.skip rfl rfl ?_
                refine RD.skip rfl rfl ?_
                refine RD.skip rfl rfl ?_
                refine RD.pure (v' := .bool false) rfl rfl rfl rfl rfl ?_
                refine RD.pure (v' := .bool false) rfl rfl rfl rfl rfl ?_
                refine RD.done rfl ?_
                refine WK.ret ?_
                subst hR
                exact RetQ.fr [] (.inr rfl) rfl rfl rfl rfl
              · rw [hb7]; try simp only [hb7, cond_true, cond_false, Bool.true_and, Bool.false_and, Bool.true_or, Bool.false_or, Bool.not_true, Bool.not_false] at hR
                refine RD.pure (v' := .bool c47b) rfl rfl rfl rfl rfl ?_
                refine RD.pure (v' := .bool c56b) rfl rfl rfl rfl rfl ?_
                refine RD.pure (v' := .bool (c47b == c56b)) rfl rfl rfl rfl rfl ?_
                refine RD.pure (v' := .bool (c47b == c56b)) rfl rfl rfl rfl rfl ?_
                refine RD.pure (v' := .bool (c47b == c56b)) rfl rfl rfl rfl rfl ?_
                rcases bool_two ((c47b == c56b)) with hb8 | hb8
                · rw [hb8]; try simp only [hb8, cond_true, cond_false, Bool.true_and, Bool.false_and, Bool.true_or, Bool.false_or, Bool.not_true, Bool.not_false] at hR
                  refine RD.skip rfl rfl ?_
                  refine RD.skip rfl rfl ?_
                  refine RD.skip rfl rfl ?_
                  refine RD.pure (v' := .bool false) rfl rfl rfl rfl rfl ?_
                  refine RD.pure (v' := .bool false) rfl rfl rfl rfl rfl ?_
                  refine RD.skip rfl rfl ?_
                  refine RD.skip rfl rfl ?_
                  refine RD.skip rfl rfl ?_
                  refine RD.skip rfl rfl ?_
                  refine RD.pure (v' := .bool false) rfl rfl rfl rfl rfl ?_
                  refine RD.pure (v' := .bool false) rfl rfl rfl rfl rfl ?_
                  refine RD.skip rfl rfl ?_
                  refine RD.skip rfl rfl ?_
                  refine RD.skip rfl rfl ?_
                  refine RD.pure (v' := .bool false) rfl rfl rfl rfl rfl ?_
                  refine RD.pure (v' := .bool false) rfl rfl rfl rfl rfl ?_
                  refine RD.done rfl ?_
                  refine WK.ret ?_
                  subst hR
                  exact RetQ.fr [] (.inr rfl) rfl rfl rfl rfl
                · rw [hb8]; try simp only [hb8, cond_true, cond_false, Bool.true_and, Bool.false_and, Bool.true_or, Bool.false_or, Bool.not_true, Bool.not_false] at hR
                  refine RD.pure (v' := .int .i64 c47c) rfl rfl rfl rfl rfl ?_
                  refine RD.pure (v' := .int .i64 c56c) rfl rfl rfl rfl rfl ?_
                  refine RD.pure (v' := .bool (decide (c47c = c56c))) rfl rfl rfl rfl rfl ?_
                  refine RD.pure (v' := .bool (decide (c47c = c56c))) rfl rfl rfl rfl rfl ?_
                  refine RD.pure (v' := .bool (decide (c47c = c56c))) rfl rfl rfl rfl rfl ?_
                  rcases bool_two (decide (c47c = c56c)) with hb9 | hb9
                  · rw [hb9]; try simp only [hb9, cond_true, cond_false, Bool.true_and, Bool.false_and, Bool.true_or, Bool.false_or, Bool.not_true, Bool.not_false] at hR
                    refine RD.skip rfl rfl ?_
                    refine RD.skip rfl rfl ?_
                    refine RD.skip rfl rfl ?_
                    refine RD.skip rfl rfl ?_
                    refine RD.pure (v' := .bool false) rfl rfl rfl rfl rfl ?_
                    refine RD.pure (v' := .bool false) rfl rfl rfl rfl rfl ?_
                    refine RD.skip rfl rfl ?_
                    refine RD.skip rfl rfl ?_
                    refine RD.skip rfl rfl ?_
                    refine RD.pure (v' := .bool false) rfl rfl rfl rfl rfl ?_
                    refine RD.pure (v' := .bool false) rfl rfl rfl rfl rfl ?_
                    refine RD.done rfl ?_
                    refine WK.ret ?_
                    subst hR
                    exact RetQ.fr [] (.inr rfl) rfl rfl rfl rfl
                  · rw [hb9]; try simp only [hb9, cond_true, cond_false, Bool.true_and, Bool.false_and, Bool.true_or, Bool.false_or, Bool.not_true, Bool.not_false] at hR
                    refine RD.pure (v' := .agg (TRoute.c c64a)) rfl rfl rfl rfl rfl ?_
                    generalize hc96 : F11_crossroadslaw08_route c64a = c96 at hR
                    try dsimp only at hR
                    refine RD.callp (r := .agg [.int .u32 c96.P.A, .int .i64 c96.P.N, .int .i64 c96.Kind, .int .i64 c96.Cost, .int .u32 c96.Tag]) rfl rfl rfl (f11_ok c64a _ hc96) rfl rfl ?_
                    refine RD.pure (v' := .agg (TRoute.c c74a)) rfl rfl rfl rfl rfl ?_
                    refine RD.pure (v' := .bool (decide (c96.P.A = c74a.P.A) && (decide (c96.P.N = c74a.P.N) && (decide (c96.Kind = c74a.Kind) && (decide (c96.Cost = c74a.Cost) && (decide (c96.Tag = c74a.Tag) && true)))))) rfl rfl rfl rfl rfl ?_
                    refine RD.pure (v' := .bool (decide (c96.P.A = c74a.P.A) && (decide (c96.P.N = c74a.P.N) && (decide (c96.Kind = c74a.Kind) && (decide (c96.Cost = c74a.Cost) && (decide (c96.Tag = c74a.Tag) && true)))))) rfl rfl rfl rfl rfl ?_
                    refine RD.pure (v' := .bool (decide (c96.P.A = c74a.P.A) && (decide (c96.P.N = c74a.P.N) && (decide (c96.Kind = c74a.Kind) && (decide (c96.Cost = c74a.Cost) && (decide (c96.Tag = c74a.Tag) && true)))))) rfl rfl rfl rfl rfl ?_
                    rcases bool_two ((decide (c96.P.A = c74a.P.A) && (decide (c96.P.N = c74a.P.N) && (decide (c96.Kind = c74a.Kind) && (decide (c96.Cost = c74a.Cost) && (decide (c96.Tag = c74a.Tag) && true)))))) with hb10 | hb10
                    · rw [hb10]; try simp only [hb10, cond_true, cond_false, Bool.true_and, Bool.false_and, Bool.true_or, Bool.false_or, Bool.not_true, Bool.not_false] at hR
                      refine RD.skip rfl rfl ?_
                      refine RD.skip rfl rfl ?_
                      refine RD.skip rfl rfl ?_
                      refine RD.pure (v' := .bool false) rfl rfl rfl rfl rfl ?_
                      refine RD.pure (v' := .bool false) rfl rfl rfl rfl rfl ?_
                      refine RD.done rfl ?_
                      refine WK.ret ?_
                      subst hR
                      exact RetQ.fr [] (.inr rfl) rfl rfl rfl rfl
                    · rw [hb10]; try simp only [hb10, cond_true, cond_false, Bool.true_and, Bool.false_and, Bool.true_or, Bool.false_or, Bool.not_true, Bool.not_false] at hR
                      refine RD.pure (v' := .bool c64b) rfl rfl rfl rfl rfl ?_
                      refine RD.pure (v' := .bool c74b) rfl rfl rfl rfl rfl ?_
                      refine RD.pure (v' := .bool (c64b == c74b)) rfl rfl rfl rfl rfl ?_
                      refine RD.pure (v' := .bool (c64b == c74b)) rfl rfl rfl rfl rfl ?_
                      refine RD.pure (v' := .bool (c64b == c74b)) rfl rfl rfl rfl rfl ?_
                      refine RD.done rfl ?_
                      refine WK.ret ?_
                      subst hR
                      exact RetQ.fr [] (.inr rfl) rfl rfl rfl rfl

theorem f25_ok (m0 : List TClause) (l1 : List TRoute) (hp0 : l1.length ≤ 1048576) (R : (List TRoute)) (hR : F25_rmap_Filter m0 l1 = R) : FnOk Try.prog 25 [.ro 12 (m0.map TClause.c), .ro 5 (l1.map TRoute.c)] [] 0 (.ro 5 (R.map TRoute.c)) [] 0 := by
  refine FnOk.wk i25 rfl rfl ?_
  unfold F25_rmap_Filter at hR
  change WK _ _ _ [ac25] _ ⟨[(0, .ro 12 (m0.map TClause.c)), (1, .ro 5 (l1.map TRoute.c))], [], 0⟩
  unfold ac25
  refine WK.seq ?_
  refine WK.regx mixed ?_
  refine GX.pure (v' := .nils) rfl rfl rfl rfl rfl ?_
  refine GX.done ?_
  refine WK.seq ?_
  refine WK.regx mixed ?_
  refine GX.pure (v' := .nils) rfl rfl rfl rfl rfl ?_
  refine GX.done ?_
  refine WK.seq ?_
  refine WK.seq ?_
  refine WK.regx mixed ?_
  refine GX.pure (v' := .ro 5 (l1.map TRoute.c)) rfl rfl rfl rfl rfl ?_
  refine GX.pure (v' := .int .i64 (l1.length : Int)) rfl rfl rfl rfl (len_map _ _) ?_
  refine GX.pure (v' := .int .i64 0) rfl rfl rfl rfl rfl ?_
  refine GX.done ?_
  refine WK.adopt (t := 5) (sz := 5) (ty := 27) (heap' := [(0, .row 5 27 (([] : List TRoute).map TRoute.c))]) rfl (by decide) (by simp) rfl ?_
  refine WK.len (t := 1) rfl (by simp) (fun hlen_9 => ?_)
  rw [List.length_map] at hlen_9
  generalize hZ_9 : F25_rmap_Filter_l1 m0 ([] : List TRoute) l1 = Z_9 at hR
  refine WK.forK (fun k s => ∃ (i13 : Nat) (out5 : List TRoute), i13 ≤ l1.length ∧ k = l1.length - i13 ∧ out5.length ≤ i13 + 0 ∧ F25_rmap_Filter_l1 m0 out5 (l1.drop i13) = Z_9 ∧ s = ⟨[(0, .ro 12 (m0.map TClause.c)), (5, .own 0 5 0 out5.length), (11, .ro 5 (l1.map TRoute.c)), (12, .int .i64 (l1.length : Int)), (13, .int .i64 (i13 : Int))], [(0, .row 5 27 (out5.map TRoute.c))], 1⟩) l1.length ⟨⟨[(0, .ro 12 (m0.map TClause.c)), (5, .own 0 5 0 ([] : List TRoute).length), (11, .ro 5 (l1.map TRoute.c)), (12, .int .i64 (l1.length : Int)), (13, .int .i64 (0 : Int))], [(0, .row 5 27 (([] : List TRoute).map TRoute.c))], 1⟩, Conv.keep [0] [] [0, 5, 11, 12, 13] rfl rfl (viewE_cons rfl rfl (viewE_cons rfl rfl (viewE_cons rfl rfl (viewE_cons rfl rfl (viewE_cons rfl rfl viewE_nil))))) rfl rfl, 0, ([] : List TRoute), (by first | omega | ((try simp only [List.length_append, List.length_cons, List.length_nil] at *) <;> omega) | (have hlf := may03_len (by assumption) (by assumption); omega)), rfl, (by first | omega | ((try simp only [List.length_append, List.length_cons, List.length_nil] at *) <;> omega) | (have hlf := may03_len (by assumption) (by assumption); omega)), hZ_9, rfl⟩ ?_
  rintro _ _ ⟨i13, out5, hi_9, rfl, hinv9_out5, hL_9, rfl⟩ again_9 out_9 Q_9 hagain_9 hout_9 hQ_9
  refine WK.seq ?_
  refine WK.regx mixed ?_
  refine GX.pure (v' := .bool (decide ((i13 : Int) < (l1.length : Int)))) rfl rfl rfl rfl rfl ?_
  refine GX.done ?_
  refine WK.seq ?_
  rcases bool_two (decide ((i13 : Int) < (l1.length : Int))) with hb10 | hb10
  · rw [hb10]
    rw [drop_end hb10, F25_rmap_Filter_l1] at hL_9
    refine WK.condF rfl ?_
    refine WK.exit ?_
    refine QF.exit (hout_9 _ ?_)
    subst hL_9
    try dsimp only [cond_true, cond_false] at hR
    refine WK.seq ?_
    refine WK.regx mixed ?_
    refine GX.pure (v' := .own 0 5 0 out5.length) rfl rfl rfl rfl rfl ?_
    refine GX.pure (v' := .own 0 5 0 out5.length) rfl rfl rfl rfl rfl ?_
    refine GX.done ?_
    refine WK.ret ?_
    subst hR
    exact RetQ.fr [0] (.inr rfl) rfl rfl (viewGo_cons (view_rowT rfl rfl) viewGo_nil) rfl
  · rw [hb10]
    obtain ⟨x13, hx9, hd9, hlt9⟩ := drop_more hb10
    rw [hd9, F25_rmap_Filter_l1] at hL_9
    refine WK.condT rfl ?_
    refine WK.skip ?_
    refine WK.seq ?_
    refine WK.blockK (fun _ hK11 => ?_)
    refine WK.seq ?_
    refine WK.regx mixed ?_
    refine GX.idxT (c := TRoute.c) (x := x13) rfl rfl rfl (Int.natCast_nonneg _) hx9 ?_
    refine GX.pure (v' := .agg (TRoute.c x13)) rfl rfl rfl rfl rfl ?_
    refine GX.step (v' := .ptr 1 0) (heap' := [(0, .row 5 27 (out5.map TRoute.c)), (1, .box [.int .u32 0, .int .i64 0, .int .i64 0, .int .i64 0, .int .u32 0])]) (next' := 2) rfl rfl rfl rfl rfl rfl rfl ?_
    refine GX.step0 (heap' := [(0, .row 5 27 (out5.map TRoute.c)), (1, .box (TRoute.c x13))]) (next' := 2) rfl rfl rfl rfl rfl ?_
    refine GX.done ?_
    refine WK.seq ?_
    refine WK.regx mixed ?_
    refine GX.pure (v' := .ro 12 (m0.map TClause.c)) rfl rfl rfl rfl rfl ?_
    refine GX.pure (v' := .agg (TRoute.c x13)) rfl rfl rfl rfl rfl ?_
    generalize hc20 : F13_rmap_Eval m0 x13 = c20 at hL_9
    obtain ⟨c20a, c20b, c20c⟩ := c20; try dsimp only at hL_9
    refine GX.callp (r := .tup [.agg [.int .u32 c20a.P.A, .int .i64 c20a.P.N, .int .i64 c20a.Kind, .int .i64 c20a.Cost, .int .u32 c20a.Tag], .bool c20b, .int .i64 c20c]) rfl rfl rfl (f13_ok m0 x13 _ hc20) rfl rfl ?_
    refine GX.pure (v' := .tup [.agg [.int .u32 c20a.P.A, .int .i64 c20a.P.N, .int .i64 c20a.Kind, .int .i64 c20a.Cost, .int .u32 c20a.Tag], .bool c20b, .int .i64 c20c]) rfl rfl rfl rfl rfl ?_
    refine GX.pure (v' := .agg [.int .u32 c20a.P.A, .int .i64 c20a.P.N, .int .i64 c20a.Kind, .int .i64 c20a.Cost, .int .u32 c20a.Tag]) rfl rfl rfl rfl rfl ?_
    refine GX.pure (v' := .bool c20b) rfl rfl rfl rfl rfl ?_
    refine GX.pure (v' := .int .i64 c20c) rfl rfl rfl rfl rfl ?_
    refine GX.step (v' := .ptr 2 0) (heap' := [(0, .row 5 27 (out5.map TRoute.c)), (1, .box (TRoute.c x13)), (2, .box [.int .u32 0, .int .i64 0, .int .i64 0, .int .i64 0, .int .u32 0])]) (next' := 3) rfl rfl rfl rfl rfl rfl rfl ?_
    refine GX.step0 (heap' := [(0, .row 5 27 (out5.map TRoute.c)), (1, .box (TRoute.c x13)), (2, .box (TRoute.c c20a))]) (next' := 3) rfl rfl rfl rfl rfl ?_
    refine GX.pure (v' := .bool c20b) rfl rfl rfl rfl rfl ?_
    refine GX.pure (v' := .int .i64 c20c) rfl rfl rfl rfl rfl ?_
    refine GX.done ?_
    refine WK.seq ?_
    refine WK.regx mixed ?_
    refine GX.pure (v' := .bool c20b) rfl rfl rfl rfl rfl ?_
    refine GX.done ?_
    rcases bool_two (c20b) with hb12 | hb12
    · rw [hb12]; try simp only [hb12, cond_true, cond_false, Bool.true_and, Bool.false_and, Bool.true_or, Bool.false_or, Bool.not_true, Bool.not_false] at hL_9
      refine WK.condF rfl ?_
      refine WK.skip ?_
      refine WK.nil (QF.normal (hK11 _ ?_))
      refine WK.regx mixed ?_
      refine GX.pure (v' := .int .i64 ((i13 + 1 : Nat) : Int)) rfl rfl rfl rfl (congrArg (PVal.int .i64) (wrap_up hlt9 hlen_9)) ?_
      refine GX.pure (v' := .int .i64 ((i13 + 1 : Nat) : Int)) rfl rfl rfl rfl rfl ?_
      refine GX.done ?_
      refine WK.nil (QF.normal ?_)
      exact hagain_9 _ (l1.length - (i13 + 1)) ⟨[(0, .ro 12 (m0.map TClause.c)), (5, .own 0 5 0 out5.length), (11, .ro 5 (l1.map TRoute.c)), (12, .int .i64 (l1.length : Int)), (13, .int .i64 ((i13 + 1) : Int))], [(0, .row 5 27 (out5.map TRoute.c))], 1⟩ (by first | omega | ((try simp only [List.length_append, List.length_cons, List.length_nil] at *) <;> omega) | (have hlf := may03_len (by assumption) (by assumption); omega)) (Conv.keep [0] [] [0, 5, 11, 12, 13] rfl rfl (viewE_cons rfl rfl (viewE_cons rfl rfl (viewE_cons rfl rfl (viewE_cons rfl rfl (viewE_cons rfl rfl viewE_nil))))) rfl rfl) ⟨i13 + 1, out5, (by first | omega | ((try simp only [List.length_append, List.length_cons, List.length_nil] at *) <;> omega) | (have hlf := may03_len (by assumption) (by assumption); omega)), rfl, (by first | omega | ((try simp only [List.length_append, List.length_cons, List.length_nil] at *) <;> omega) | (have hlf := may03_len (by assumption) (by assumption); omega)), hL_9, rfl⟩
    · rw [hb12]; try simp only [hb12, cond_true, cond_false, Bool.true_and, Bool.false_and, Bool.true_or, Bool.false_or, Bool.not_true, Bool.not_false] at hL_9
      refine WK.condT rfl ?_
      refine WK.regx mixed ?_
      refine GX.pure (v' := .own 0 5 0 out5.length) rfl rfl rfl rfl rfl ?_
      refine GX.pure (v' := .agg (TRoute.c c20a)) rfl rfl rfl rfl rfl ?_
      refine GX.step (v' := .own 3 5 0 (([c20a] : List TRoute)).length) (heap' := [(0, .row 5 27 (out5.map TRoute.c)), (1, .box (TRoute.c x13)), (2, .box (TRoute.c c20a)), (3, .row 5 27 (([c20a] : List TRoute).map TRoute.c))]) (next' := 4) rfl rfl rfl rfl rfl rfl rfl ?_
      refine GX.appT (c := TRoute.c) (L := out5) (X := ([c20a] : List TRoute)) (heap' := [(1, .box (TRoute.c x13)), (2, .box (TRoute.c c20a)), (3, .row 5 27 (([c20a] : List TRoute).map TRoute.c)), (4, .row 5 27 ((out5 ++ ([c20a] : List TRoute)).map TRoute.c))]) (next' := 5) rfl rfl rfl rfl (elems_own rfl) (by first | omega | assumption | ((try simp only [List.length_append, List.length_cons, List.length_nil, List.length_map, decide_eq_true_eq, decide_eq_false_iff_not] at *) <;> omega) | exact hp0 _ (List.mem_of_getElem? (by assumption)) | exact hp1 _ (List.mem_of_getElem? (by assumption)) | exact hp2 _ (List.mem_of_getElem? (by assumption)) | exact hp3 _ (List.mem_of_getElem? (by assumption)) | exact hp4 _ (List.mem_of_getElem? (by assumption)) | exact hp5 _ (List.mem_of_getElem? (by assumption)) | exact small_len (by assumption) (by assumption) | exact small_rules (by assumption) (by assumption) | exact small_rules (by assumption) (by assumption) _ (List.mem_of_getElem? (by assumption)) | (have hszf := small_len (by assumption) (by assumption); (try simp only [List.length_append, List.length_cons, List.length_nil, List.length_map] at *) <;> omega)) (by first | omega | assumption | ((try simp only [List.length_append, List.length_cons, List.length_nil, List.length_map, decide_eq_true_eq, decide_eq_false_iff_not] at *) <;> omega) | exact hp0 _ (List.mem_of_getElem? (by assumption)) | exact hp1 _ (List.mem_of_getElem? (by assumption)) | exact hp2 _ (List.mem_of_getElem? (by assumption)) | exact hp3 _ (List.mem_of_getElem? (by assumption)) | exact hp4 _ (List.mem_of_getElem? (by assumption)) | exact hp5 _ (List.mem_of_getElem? (by assumption)) | exact small_len (by assumption) (by assumption) | exact small_rules (by assumption) (by assumption) | exact small_rules (by assumption) (by assumption) _ (List.mem_of_getElem? (by assumption)) | (have hszf := small_len (by assumption) (by assumption); (try simp only [List.length_append, List.length_cons, List.length_nil, List.length_map] at *) <;> omega)) rfl rfl rfl rfl ?_
      refine GX.pure (v' := .own 4 5 0 (out5 ++ ([c20a] : List TRoute)).length) rfl rfl rfl rfl rfl ?_
      refine GX.done ?_
      refine WK.nil (QF.normal (hK11 _ ?_))
      refine WK.regx mixed ?_
      refine GX.pure (v' := .int .i64 ((i13 + 1 : Nat) : Int)) rfl rfl rfl rfl (congrArg (PVal.int .i64) (wrap_up hlt9 hlen_9)) ?_
      refine GX.pure (v' := .int .i64 ((i13 + 1 : Nat) : Int)) rfl rfl rfl rfl rfl ?_
      refine GX.done ?_
      refine WK.nil (QF.normal ?_)
      exact hagain_9 _ (l1.length - (i13 + 1)) ⟨[(0, .ro 12 (m0.map TClause.c)), (5, .own 0 5 0 (out5 ++ ([c20a] : List TRoute)).length), (11, .ro 5 (l1.map TRoute.c)), (12, .int .i64 (l1.length : Int)), (13, .int .i64 ((i13 + 1) : Int))], [(0, .row 5 27 ((out5 ++ ([c20a] : List TRoute)).map TRoute.c))], 1⟩ (by first | omega | ((try simp only [List.length_append, List.length_cons, List.length_nil] at *) <;> omega) | (have hlf := may03_len (by assumption) (by assumption); omega)) (Conv.keep [4] [] [0, 5, 11, 12, 13] rfl rfl (viewE_cons rfl rfl (viewE_cons rfl rfl (viewE_cons rfl rfl (viewE_cons rfl rfl (viewE_cons rfl rfl viewE_nil))))) rfl rfl) ⟨i13 + 1, (out5 ++ ([c20a] : List TRoute)), (by first | omega | ((try simp only [List.length_append, List.length_cons, List.length_nil] at *) <;> omega) | (have hlf := may03_len (by assumption) (by assumption); omega)), rfl, (by first | omega | ((try simp only [List.length_append, List.length_cons, List.length_nil] at *) <;> omega) | (have hlf := may03_len (by assumption) (by assumption); omega)), hL_9, rfl⟩

theorem f26_ok (m0 : List TClause) (l1 : List TRoute) (hp0 : l1.length ≤ 1048576) (R : (List TRoute)) (hR : F26_crossroadsref08_Filter m0 l1 = R) : FnOk Try.prog 26 [.ro 12 (m0.map TClause.c), .ro 5 (l1.map TRoute.c)] [] 0 (.ro 5 (R.map TRoute.c)) [] 0 := by
  refine FnOk.wk i26 rfl rfl ?_
  unfold F26_crossroadsref08_Filter at hR
  change WK _ _ _ [ac26] _ ⟨[(0, .ro 12 (m0.map TClause.c)), (1, .ro 5 (l1.map TRoute.c))], [], 0⟩
  unfold ac26
  refine WK.seq ?_
  refine WK.regx mixed ?_
  refine GX.pure (v' := .nils) rfl rfl rfl rfl rfl ?_
  refine GX.done ?_
  refine WK.seq ?_
  refine WK.regx mixed ?_
  refine GX.step (v' := .own 0 5 0 (([] : List TRoute)).length) (heap' := [(0, .row 5 33 (([] : List TRoute).map TRoute.c))]) (next' := 1) rfl rfl rfl rfl rfl rfl rfl ?_
  refine GX.pure (v' := .own 0 5 0 (([] : List TRoute)).length) rfl rfl rfl rfl rfl ?_
  refine GX.done ?_
  refine WK.seq ?_
  refine WK.seq ?_
  refine WK.regx mixed ?_
  refine GX.pure (v' := .int .i64 0) rfl rfl rfl rfl rfl ?_
  refine GX.done ?_
  refine WK.len (t := 1) rfl (by simp) (fun hlen_5 => ?_)
  rw [List.length_map] at hlen_5
  generalize hZ_5 : F26_crossroadsref08_Filter_l1 m0 ([] : List TRoute) l1 = Z_5 at hR
  refine WK.forK (fun k s => ∃ (i6 : Nat) (out5 : List TRoute), i6 ≤ l1.length ∧ k = l1.length - i6 ∧ out5.length ≤ i6 + 0 ∧ F26_crossroadsref08_Filter_l1 m0 out5 (l1.drop i6) = Z_5 ∧ s = ⟨[(0, .ro 12 (m0.map TClause.c)), (1, .ro 5 (l1.map TRoute.c)), (5, .own 0 5 0 out5.length), (6, .int .i64 (i6 : Int))], [(0, .row 5 33 (out5.map TRoute.c))], 1⟩) l1.length ⟨⟨[(0, .ro 12 (m0.map TClause.c)), (1, .ro 5 (l1.map TRoute.c)), (5, .own 0 5 0 ([] : List TRoute).length), (6, .int .i64 (0 : Int))], [(0, .row 5 33 (([] : List TRoute).map TRoute.c))], 1⟩, Conv.keep [0] [] [0, 1, 5, 6] rfl rfl (viewE_cons rfl rfl (viewE_cons rfl rfl (viewE_cons rfl rfl (viewE_cons rfl rfl viewE_nil)))) rfl rfl, 0, ([] : List TRoute), (by first | omega | ((try simp only [List.length_append, List.length_cons, List.length_nil] at *) <;> omega) | (have hlf := may03_len (by assumption) (by assumption); omega)), rfl, (by first | omega | ((try simp only [List.length_append, List.length_cons, List.length_nil] at *) <;> omega) | (have hlf := may03_len (by assumption) (by assumption); omega)), hZ_5, rfl⟩ ?_
  rintro _ _ ⟨i6, out5, hi_5, rfl, hinv5_out5, hL_5, rfl⟩ again_5 out_5 Q_5 hagain_5 hout_5 hQ_5
  refine WK.seq ?_
  refine WK.seq ?_
  refine WK.regx mixed ?_
  refine GX.pure (v' := .int .i64 (i6 : Int)) rfl rfl rfl rfl rfl ?_
  refine GX.pure (v' := .ro 5 (l1.map TRoute.c)) rfl rfl rfl rfl rfl ?_
  refine GX.pure (v' := .int .i64 (l1.length : Int)) rfl rfl rfl rfl (len_map _ _) ?_
  refine GX.pure (v' := .bool (decide ((i6 : Int) < (l1.length : Int)))) rfl rfl rfl rfl rfl ?_
  refine GX.done ?_
  rcases bool_two (decide ((i6 : Int) < (l1.length : Int))) with hb6 | hb6
  · rw [hb6]
    rw [drop_end hb6, F26_crossroadsref08_Filter_l1] at hL_5
    refine WK.condF rfl ?_
    refine WK.exit ?_
    refine QF.exit (hout_5 _ ?_)
    subst hL_5
    try dsimp only [cond_true, cond_false] at hR
    refine WK.seq ?_
    refine WK.regx mixed ?_
    refine GX.pure (v' := .own 0 5 0 out5.length) rfl rfl rfl rfl rfl ?_
    refine GX.pure (v' := .own 0 5 0 out5.length) rfl rfl rfl rfl rfl ?_
    refine GX.done ?_
    refine WK.ret ?_
    subst hR
    exact RetQ.fr [0] (.inr rfl) rfl rfl (viewGo_cons (view_rowT rfl rfl) viewGo_nil) rfl
  · rw [hb6]
    obtain ⟨x6, hx5, hd5, hlt5⟩ := drop_more hb6
    rw [hd5, F26_crossroadsref08_Filter_l1] at hL_5
    refine WK.condT rfl ?_
    refine WK.skip ?_
    refine WK.seq ?_
    refine WK.blockK (fun _ hK7 => ?_)
    refine WK.seq ?_
    refine WK.regx mixed ?_
    refine GX.pure (v' := .ro 12 (m0.map TClause.c)) rfl rfl rfl rfl rfl ?_
    refine GX.pure (v' := .ro 5 (l1.map TRoute.c)) rfl rfl rfl rfl rfl ?_
    refine GX.pure (v' := .int .i64 (i6 : Int)) rfl rfl rfl rfl rfl ?_
    refine GX.idxT (c := TRoute.c) (x := x6) rfl rfl rfl (Int.natCast_nonneg _) hx5 ?_
    refine GX.pure (v' := .agg (TRoute.c x6)) rfl rfl rfl rfl rfl ?_
    generalize hc23 : F22_crossroadsref08_Eval m0 x6 = c23 at hL_5
    obtain ⟨c23a, c23b, c23c⟩ := c23; try dsimp only at hL_5
    refine GX.callp (r := .tup [.agg [.int .u32 c23a.P.A, .int .i64 c23a.P.N, .int .i64 c23a.Kind, .int .i64 c23a.Cost, .int .u32 c23a.Tag], .bool c23b, .int .i64 c23c]) rfl rfl rfl (f22_ok m0 x6 _ hc23) rfl rfl ?_
    refine GX.pure (v' := .tup [.agg [.int .u32 c23a.P.A, .int .i64 c23a.P.N, .int .i64 c23a.Kind, .int .i64 c23a.Cost, .int .u32 c23a.Tag], .bool c23b, .int .i64 c23c]) rfl rfl rfl rfl rfl ?_
    refine GX.pure (v' := .agg [.int .u32 c23a.P.A, .int .i64 c23a.P.N, .int .i64 c23a.Kind, .int .i64 c23a.Cost, .int .u32 c23a.Tag]) rfl rfl rfl rfl rfl ?_
    refine GX.pure (v' := .bool c23b) rfl rfl rfl rfl rfl ?_
    refine GX.pure (v' := .int .i64 c23c) rfl rfl rfl rfl rfl ?_
    refine GX.step (v' := .ptr 1 0) (heap' := [(0, .row 5 33 (out5.map TRoute.c)), (1, .box [.int .u32 0, .int .i64 0, .int .i64 0, .int .i64 0, .int .u32 0])]) (next' := 2) rfl rfl rfl rfl rfl rfl rfl ?_
    refine GX.step0 (heap' := [(0, .row 5 33 (out5.map TRoute.c)), (1, .box (TRoute.c c23a))]) (next' := 2) rfl rfl rfl rfl rfl ?_
    refine GX.pure (v' := .bool c23b) rfl rfl rfl rfl rfl ?_
    refine GX.pure (v' := .int .i64 c23c) rfl rfl rfl rfl rfl ?_
    refine GX.done ?_
    refine WK.seq ?_
    refine WK.regx mixed ?_
    refine GX.pure (v' := .bool c23b) rfl rfl rfl rfl rfl ?_
    refine GX.done ?_
    rcases bool_two (c23b) with hb8 | hb8
    · rw [hb8]; try simp only [hb8, cond_true, cond_false, Bool.true_and, Bool.false_and, Bool.true_or, Bool.false_or, Bool.not_true, Bool.not_false] at hL_5
      refine WK.condF rfl ?_
      refine WK.skip ?_
      refine WK.nil (QF.normal (hK7 _ ?_))
      refine WK.regx mixed ?_
      refine GX.pure (v' := .int .i64 (i6 : Int)) rfl rfl rfl rfl rfl ?_
      refine GX.pure (v' := .int .i64 ((i6 + 1 : Nat) : Int)) rfl rfl rfl rfl (congrArg (PVal.int .i64) (wrap_up hlt5 hlen_5)) ?_
      refine GX.pure (v' := .int .i64 ((i6 + 1 : Nat) : Int)) rfl rfl rfl rfl rfl ?_
      refine GX.done ?_
      refine WK.nil (QF.normal ?_)
      exact hagain_5 _ (l1.length - (i6 + 1)) ⟨[(0, .ro 12 (m0.map TClause.c)), (1, .ro 5 (l1.map TRoute.c)), (5, .own 0 5 0 out5.length), (6, .int .i64 ((i6 + 1) : Int))], [(0, .row 5 33 (out5.map TRoute.c))], 1⟩ (by first | omega | ((try simp only [List.length_append, List.length_cons, List.length_nil] at *) <;> omega) | (have hlf := may03_len (by assumption) (by assumption); omega)) (Conv.keep [0] [] [0, 1, 5, 6] rfl rfl (viewE_cons rfl rfl (viewE_cons rfl rfl (viewE_cons rfl rfl (viewE_cons rfl rfl viewE_nil)))) rfl rfl) ⟨i6 + 1, out5, (by first | omega | ((try simp only [List.length_append, List.length_cons, List.length_nil] at *) <;> omega) | (have hlf := may03_len (by assumption) (by assumption); omega)), rfl, (by first | omega | ((try simp only [List.length_append, List.length_cons, List.length_nil] at *) <;> omega) | (have hlf := may03_len (by assumption) (by assumption); omega)), hL_5, rfl⟩
    · rw [hb8]; try simp only [hb8, cond_true, cond_false, Bool.true_and, Bool.false_and, Bool.true_or, Bool.false_or, Bool.not_true, Bool.not_false] at hL_5
      refine WK.condT rfl ?_
      refine WK.regx mixed ?_
      refine GX.pure (v' := .own 0 5 0 out5.length) rfl rfl rfl rfl rfl ?_
      refine GX.pure (v' := .agg (TRoute.c c23a)) rfl rfl rfl rfl rfl ?_
      refine GX.step (v' := .own 2 5 0 (([c23a] : List TRoute)).length) (heap' := [(0, .row 5 33 (out5.map TRoute.c)), (1, .box (TRoute.c c23a)), (2, .row 5 33 (([c23a] : List TRoute).map TRoute.c))]) (next' := 3) rfl rfl rfl rfl rfl rfl rfl ?_
      refine GX.appT (c := TRoute.c) (L := out5) (X := ([c23a] : List TRoute)) (heap' := [(1, .box (TRoute.c c23a)), (2, .row 5 33 (([c23a] : List TRoute).map TRoute.c)), (3, .row 5 33 ((out5 ++ ([c23a] : List TRoute)).map TRoute.c))]) (next' := 4) rfl rfl rfl rfl (elems_own rfl) (by first | omega | assumption | ((try simp only [List.length_append, List.length_cons, List.length_nil, List.length_map, decide_eq_true_eq, decide_eq_false_iff_not] at *) <;> omega) | exact hp0 _ (List.mem_of_getElem? (by assumption)) | exact hp1 _ (List.mem_of_getElem? (by assumption)) | exact hp2 _ (List.mem_of_getElem? (by assumption)) | exact hp3 _ (List.mem_of_getElem? (by assumption)) | exact hp4 _ (List.mem_of_getElem? (by assumption)) | exact hp5 _ (List.mem_of_getElem? (by assumption)) | exact small_len (by assumption) (by assumption) | exact small_rules (by assumption) (by assumption) | exact small_rules (by assumption) (by assumption) _ (List.mem_of_getElem? (by assumption)) | (have hszf := small_len (by assumption) (by assumption); (try simp only [List.length_append, List.length_cons, List.length_nil, List.length_map] at *) <;> omega)) (by first | omega | assumption | ((try simp only [List.length_append, List.length_cons, List.length_nil, List.length_map, decide_eq_true_eq, decide_eq_false_iff_not] at *) <;> omega) | exact hp0 _ (List.mem_of_getElem? (by assumption)) | exact hp1 _ (List.mem_of_getElem? (by assumption)) | exact hp2 _ (List.mem_of_getElem? (by assumption)) | exact hp3 _ (List.mem_of_getElem? (by assumption)) | exact hp4 _ (List.mem_of_getElem? (by assumption)) | exact hp5 _ (List.mem_of_getElem? (by assumption)) | exact small_len (by assumption) (by assumption) | exact small_rules (by assumption) (by assumption) | exact small_rules (by assumption) (by assumption) _ (List.mem_of_getElem? (by assumption)) | (have hszf := small_len (by assumption) (by assumption); (try simp only [List.length_append, List.length_cons, List.length_nil, List.length_map] at *) <;> omega)) rfl rfl rfl rfl ?_
      refine GX.pure (v' := .own 3 5 0 (out5 ++ ([c23a] : List TRoute)).length) rfl rfl rfl rfl rfl ?_
      refine GX.done ?_
      refine WK.nil (QF.normal (hK7 _ ?_))
      refine WK.regx mixed ?_
      refine GX.pure (v' := .int .i64 (i6 : Int)) rfl rfl rfl rfl rfl ?_
      refine GX.pure (v' := .int .i64 ((i6 + 1 : Nat) : Int)) rfl rfl rfl rfl (congrArg (PVal.int .i64) (wrap_up hlt5 hlen_5)) ?_
      refine GX.pure (v' := .int .i64 ((i6 + 1 : Nat) : Int)) rfl rfl rfl rfl rfl ?_
      refine GX.done ?_
      refine WK.nil (QF.normal ?_)
      exact hagain_5 _ (l1.length - (i6 + 1)) ⟨[(0, .ro 12 (m0.map TClause.c)), (1, .ro 5 (l1.map TRoute.c)), (5, .own 0 5 0 (out5 ++ ([c23a] : List TRoute)).length), (6, .int .i64 ((i6 + 1) : Int))], [(0, .row 5 33 ((out5 ++ ([c23a] : List TRoute)).map TRoute.c))], 1⟩ (by first | omega | ((try simp only [List.length_append, List.length_cons, List.length_nil] at *) <;> omega) | (have hlf := may03_len (by assumption) (by assumption); omega)) (Conv.keep [3] [] [0, 1, 5, 6] rfl rfl (viewE_cons rfl rfl (viewE_cons rfl rfl (viewE_cons rfl rfl (viewE_cons rfl rfl viewE_nil)))) rfl rfl) ⟨i6 + 1, (out5 ++ ([c23a] : List TRoute)), (by first | omega | ((try simp only [List.length_append, List.length_cons, List.length_nil] at *) <;> omega) | (have hlf := may03_len (by assumption) (by assumption); omega)), rfl, (by first | omega | ((try simp only [List.length_append, List.length_cons, List.length_nil] at *) <;> omega) | (have hlf := may03_len (by assumption) (by assumption); omega)), hL_5, rfl⟩

end Go.Proofs.Ytagiapphmkdnmaa.Abs
