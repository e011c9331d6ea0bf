/- The functions walked: each computes its Lean function (printed by this work's own program gen.py). -/
import Derived.Test.YtagiapphmkdnmaaW5
set_option linter.unusedVariables false
set_option linter.unusedSimpArgs false
set_option maxRecDepth 10000
set_option maxHeartbeats 4000000
namespace Go.Proofs.Ytagiapphmkdnmaa.Abs
open Go

theorem f3_ok (m0 : List TClause) (t1 : TRoute) (tag2 : Int) (R : Bool) (hR : F3_crossroadslaw08_RmapTags m0 t1 tag2 = R) : FnOk Try.prog 3 [.ro 12 (m0.map TClause.c), .agg (TRoute.c t1), .int .u32 tag2] [] 0 (.bool R) [] 0 := by
  refine FnOk.wk i3 rfl rfl ?_
  unfold F3_crossroadslaw08_RmapTags at hR
  change WK _ _ _ [ac3] _ ⟨[(0, .ro 12 (m0.map TClause.c)), (1, .agg (TRoute.c t1)), (2, .int .u32 tag2)], [], 0⟩
  unfold ac3
  refine WK.seq ?_
  refine WK.regx mixed ?_
  refine GX.step (v' := .ptr 0 0) (heap' := [(0, .box (TRoute.c t1))]) (next' := 1) rfl rfl rfl rfl rfl rfl rfl ?_
  refine GX.pure (v' := .bool false) rfl rfl rfl rfl rfl ?_
  refine GX.done ?_
  refine WK.seq ?_
  refine WK.seq ?_
  refine WK.regx mixed ?_
  refine GX.pure (v' := .ro 12 (m0.map TClause.c)) rfl rfl rfl rfl rfl ?_
  generalize hc20 : F7_crossroadslaw08_small m0 = c20 at hR
  try dsimp only at hR
  refine GX.callp (r := .bool c20) rfl rfl rfl (f7_ok m0 _ hc20) rfl rfl ?_
  refine GX.pure (v' := .bool (!c20)) rfl rfl rfl rfl rfl ?_
  refine GX.pure (v' := .bool (!c20)) rfl rfl rfl rfl rfl ?_
  rcases bool_two (c20) with hb1 | hb1
  · rw [hb1]; try simp only [hb1, cond_true, cond_false, Bool.true_and, Bool.false_and, Bool.true_or, Bool.false_or, Bool.not_true, Bool.not_false] at hR
    refine GX.skip rfl rfl ?_
    refine GX.skip rfl rfl ?_
    refine GX.skip rfl rfl ?_
    refine GX.skip rfl rfl ?_
    refine GX.pure (v' := .bool true) rfl rfl rfl rfl rfl ?_
    refine GX.pure (v' := .bool true) rfl rfl rfl rfl rfl ?_
    refine GX.skip rfl rfl ?_
    refine GX.skip rfl rfl ?_
    refine GX.skip rfl rfl ?_
    refine GX.skip rfl rfl ?_
    refine GX.pure (v' := .bool true) rfl rfl rfl rfl rfl ?_
    refine GX.done ?_
    refine WK.condT rfl ?_
    refine WK.seq ?_
    refine WK.regx mixed ?_
    generalize hc34 : F12_crossroadslaw08_alive = c34 at hR
    try dsimp only at hR
    refine GX.callp (r := .bool c34) rfl rfl rfl (f12_ok  _ hc34) rfl rfl ?_
    refine GX.pure (v' := .bool c34) rfl rfl rfl rfl rfl ?_
    refine GX.done ?_
    refine WK.ret ?_
    subst hR
    exact RetQ.fr [] (.inr rfl) rfl rfl rfl rfl
  · rw [hb1]; try simp only [hb1, cond_true, cond_false, Bool.true_and, Bool.false_and, Bool.true_or, Bool.false_or, Bool.not_true, Bool.not_false] at hR
    refine GX.pure (v' := .ro 12 (m0.map TClause.c)) rfl rfl rfl rfl rfl ?_
    generalize hc24 : F9_crossroadslaw08_rows m0 = c24 at hR
    try dsimp only at hR
    refine GX.callp (r := .ro 12 (c24.map TClause.c)) rfl rfl rfl (f9_ok m0 (by first | omega | assumption | ((try simp only [List.length_append, List.length_cons, List.length_nil, List.length_map, decide_eq_true_eq, decide_eq_false_iff_not] at *) <;> omega) | exact hp0 _ (List.mem_of_getElem? (by assumption)) | exact hp1 _ (List.mem_of_getElem? (by assumption)) | exact hp2 _ (List.mem_of_getElem? (by assumption)) | exact hp3 _ (List.mem_of_getElem? (by assumption)) | exact hp4 _ (List.mem_of_getElem? (by assumption)) | exact hp5 _ (List.mem_of_getElem? (by assumption)) | exact small_len (by assumption) (by assumption) | exact small_rules (by assumption) (by assumption) | exact small_rules (by assumption) (by assumption) _ (List.mem_of_getElem? (by assumption)) | (have hszf := small_len (by assumption) (by assumption); (try simp only [List.length_append, List.length_cons, List.length_nil, List.length_map] at *) <;> omega)) (by first | omega | assumption | ((try simp only [List.length_append, List.length_cons, List.length_nil, List.length_map, decide_eq_true_eq, decide_eq_false_iff_not] at *) <;> omega) | exact hp0 _ (List.mem_of_getElem? (by assumption)) | exact hp1 _ (List.mem_of_getElem? (by assumption)) | exact hp2 _ (List.mem_of_getElem? (by assumption)) | exact hp3 _ (List.mem_of_getElem? (by assumption)) | exact hp4 _ (List.mem_of_getElem? (by assumption)) | exact hp5 _ (List.mem_of_getElem? (by assumption)) | exact small_len (by assumption) (by assumption) | exact small_rules (by assumption) (by assumption) | exact small_rules (by assumption) (by assumption) _ (List.mem_of_getElem? (by assumption)) | (have hszf := small_len (by assumption) (by assumption); (try simp only [List.length_append, List.length_cons, List.length_nil, List.length_map] at *) <;> omega)) _ hc24) rfl rfl ?_
    generalize hc25 : F8_crossroadsref08_MayAll c24 = c25 at hR
    try dsimp only at hR
    refine GX.callp (r := .bool c25) rfl rfl rfl (f8_ok c24 _ hc25) rfl rfl ?_
    refine GX.pure (v' := .bool (!c25)) rfl rfl rfl rfl rfl ?_
    refine GX.pure (v' := .bool (!c25)) rfl rfl rfl rfl rfl ?_
    refine GX.pure (v' := .bool (!c25)) rfl rfl rfl rfl rfl ?_
    rcases bool_two (c25) with hb2 | hb2
    · rw [hb2]; try simp only [hb2, cond_true, cond_false, Bool.true_and, Bool.false_and, Bool.true_or, Bool.false_or, Bool.not_true, Bool.not_false] at hR
      refine GX.skip rfl rfl ?_
      refine GX.skip rfl rfl ?_
      refine GX.skip rfl rfl ?_
      refine GX.skip rfl rfl ?_
      refine GX.pure (v' := .bool true) rfl rfl rfl rfl rfl ?_
      refine GX.done ?_
      refine WK.condT rfl ?_
      refine WK.seq ?_
      refine WK.regx mixed ?_
      generalize hc34 : F12_crossroadslaw08_alive = c34 at hR
      try dsimp only at hR
      refine GX.callp (r := .bool c34) rfl rfl rfl (f12_ok  _ hc34) rfl rfl ?_
      refine GX.pure (v' := .bool c34) rfl rfl rfl rfl rfl ?_
      refine GX.done ?_
      refine WK.ret ?_
      subst hR
      exact RetQ.fr [] (.inr rfl) rfl rfl rfl rfl
    · rw [hb2]; try simp only [hb2, cond_true, cond_false, Bool.true_and, Bool.false_and, Bool.true_or, Bool.false_or, Bool.not_true, Bool.not_false] at hR
      refine GX.pure (v' := .agg (TRoute.c t1)) rfl rfl rfl rfl rfl ?_
      generalize hc30 : F11_crossroadslaw08_route t1 = c30 at hR
      try dsimp only at hR
      refine GX.callp (r := .agg [.int .u32 c30.P.A, .int .i64 c30.P.N, .int .i64 c30.Kind, .int .i64 c30.Cost, .int .u32 c30.Tag]) rfl rfl rfl (f11_ok t1 _ hc30) rfl rfl ?_
      generalize hc31 : F10_crossroadsref08_MayRoute c30 = c31 at hR
      try dsimp only at hR
      refine GX.callp (r := .bool c31) rfl rfl rfl (f10_ok c30 _ hc31) rfl rfl ?_
      refine GX.pure (v' := .bool (!c31)) rfl rfl rfl rfl rfl ?_
      refine GX.pure (v' := .bool (!c31)) rfl rfl rfl rfl rfl ?_
      refine GX.done ?_
      rcases bool_two (c31) with hb3 | hb3
      · rw [hb3]; try simp only [hb3, cond_true, cond_false, Bool.true_and, Bool.false_and, Bool.true_or, Bool.false_or, Bool.not_true, Bool.not_false] at hR
        refine WK.condT rfl ?_
        refine WK.seq ?_
        refine WK.regx mixed ?_
        generalize hc34 : F12_crossroadslaw08_alive = c34 at hR
        try dsimp only at hR
        refine GX.callp (r := .bool c34) rfl rfl rfl (f12_ok  _ hc34) rfl rfl ?_
        refine GX.pure (v' := .bool c34) rfl rfl rfl rfl rfl ?_
        refine GX.done ?_
        refine WK.ret ?_
        subst hR
        exact RetQ.fr [] (.inr rfl) rfl rfl rfl rfl
      · rw [hb3]; try simp only [hb3, cond_true, cond_false, Bool.true_and, Bool.false_and, Bool.true_or, Bool.false_or, Bool.not_true, Bool.not_false] at hR
        refine WK.condF rfl ?_
        refine WK.skip ?_
        refine WK.seq ?_
        refine WK.regx mixed ?_
        refine GX.step (v' := .own 1 12 0 (([] : List TClause)).length) (heap' := [(0, .box (TRoute.c t1)), (1, .row 12 39 (([] : List TClause).map TClause.c))]) (next' := 2) rfl rfl rfl rfl rfl rfl rfl ?_
        refine GX.pure (v' := .own 1 12 0 (([] : List TClause)).length) rfl rfl rfl rfl rfl ?_
        refine GX.done ?_
        refine WK.seq ?_
        refine WK.seq ?_
        refine WK.regx mixed ?_
        refine GX.pure (v' := .int .i64 0) rfl rfl rfl rfl rfl ?_
        refine GX.done ?_
        refine WK.len (t := 0) rfl (by simp) (fun hlen_29 => ?_)
        rw [List.length_map] at hlen_29
        generalize hZ_29 : F3_crossroadslaw08_RmapTags_l2 tag2 ([] : List TClause) m0 = Z_29 at hR
        refine WK.forK (fun k s => ∃ (i8 : Nat) (k7 : List TClause), i8 ≤ m0.length ∧ k = m0.length - i8 ∧ k7.length ≤ i8 + 0 ∧ F3_crossroadslaw08_RmapTags_l2 tag2 k7 (m0.drop i8) = Z_29 ∧ s = ⟨[(0, .ro 12 (m0.map TClause.c)), (2, .int .u32 tag2), (4, .ptr 0 0), (7, .own 1 12 0 k7.length), (8, .int .i64 (i8 : Int))], [(0, .box (TRoute.c t1)), (1, .row 12 39 (k7.map TClause.c))], 2⟩) m0.length ⟨⟨[(0, .ro 12 (m0.map TClause.c)), (2, .int .u32 tag2), (4, .ptr 0 0), (7, .own 1 12 0 ([] : List TClause).length), (8, .int .i64 (0 : Int))], [(0, .box (TRoute.c t1)), (1, .row 12 39 (([] : List TClause).map TClause.c))], 2⟩, Conv.keep [0, 1] [] [0, 2, 4, 7, 8] rfl rfl (viewE_cons rfl rfl (viewE_cons rfl rfl (viewE_cons rfl rfl (viewE_cons rfl rfl (viewE_cons rfl rfl viewE_nil))))) rfl rfl, 0, ([] : List TClause), (by first | omega | ((try simp only [List.length_append, List.length_cons, List.length_nil] at *) <;> omega) | (have hlf := may03_len (by assumption) (by assumption); omega)), rfl, (by first | omega | ((try simp only [List.length_append, List.length_cons, List.length_nil] at *) <;> omega) | (have hlf := may03_len (by assumption) (by assumption); omega)), hZ_29, rfl⟩ ?_
        rintro _ _ ⟨i8, k7, hi_29, rfl, hinv29_k7, hL_29, rfl⟩ again_29 out_29 Q_29 hagain_29 hout_29 hQ_29
        refine WK.seq ?_
        refine WK.seq ?_
        refine WK.regx mixed ?_
        refine GX.pure (v' := .int .i64 (i8 : Int)) rfl rfl rfl rfl rfl ?_
        refine GX.pure (v' := .ro 12 (m0.map TClause.c)) rfl rfl rfl rfl rfl ?_
        refine GX.pure (v' := .int .i64 (m0.length : Int)) rfl rfl rfl rfl (len_map _ _) ?_
        refine GX.pure (v' := .bool (decide ((i8 : Int) < (m0.length : Int)))) rfl rfl rfl rfl rfl ?_
        refine GX.done ?_
        rcases bool_two (decide ((i8 : Int) < (m0.length : Int))) with hb30 | hb30
        · rw [hb30]
          rw [drop_end hb30, F3_crossroadslaw08_RmapTags_l2] at hL_29
          refine WK.condF rfl ?_
          refine WK.exit ?_
          refine QF.exit (hout_29 _ ?_)
          subst hL_29
          try dsimp only [cond_true, cond_false] at hR
          refine WK.seq ?_
          refine WK.regx mixed ?_
          refine GX.pure (v' := .own 1 12 0 k7.length) rfl rfl rfl rfl rfl ?_
          refine GX.pure (v' := .agg (TRoute.c t1)) rfl rfl rfl rfl rfl ?_
          generalize hc56 : F13_rmap_Eval k7 t1 = c56 at hR
          obtain ⟨c56a, c56b, c56c⟩ := c56; try dsimp only at hR
          refine GX.callbp (r := .tup [.agg [.int .u32 c56a.P.A, .int .i64 c56a.P.N, .int .i64 c56a.Kind, .int .i64 c56a.Cost, .int .u32 c56a.Tag], .bool c56b, .int .i64 c56c]) [1] rfl rfl rfl (viewGo_cons (view_rowT rfl rfl) (viewGo_cons rfl viewGo_nil)) (f13_ok k7 t1 _ hc56) rfl rfl ?_
          refine GX.pure (v' := .tup [.agg [.int .u32 c56a.P.A, .int .i64 c56a.P.N, .int .i64 c56a.Kind, .int .i64 c56a.Cost, .int .u32 c56a.Tag], .bool c56b, .int .i64 c56c]) rfl rfl rfl rfl rfl ?_
          refine GX.pure (v' := .agg [.int .u32 c56a.P.A, .int .i64 c56a.P.N, .int .i64 c56a.Kind, .int .i64 c56a.Cost, .int .u32 c56a.Tag]) rfl rfl rfl rfl rfl ?_
          refine GX.pure (v' := .bool c56b) rfl rfl rfl rfl rfl ?_
          refine GX.pure (v' := .int .i64 c56c) rfl rfl rfl rfl rfl ?_
          refine GX.step (v' := .ptr 2 0) (heap' := [(0, .box (TRoute.c t1)), (1, .row 12 39 (k7.map TClause.c)), (2, .box [.int .u32 0, .int .i64 0, .int .i64 0, .int .i64 0, .int .u32 0])]) (next' := 3) rfl rfl rfl rfl rfl rfl rfl ?_
          refine GX.step0 (heap' := [(0, .box (TRoute.c t1)), (1, .row 12 39 (k7.map TClause.c)), (2, .box (TRoute.c c56a))]) (next' := 3) rfl rfl rfl rfl rfl ?_
          refine GX.pure (v' := .bool c56b) rfl rfl rfl rfl rfl ?_
          refine GX.pure (v' := .int .i64 c56c) rfl rfl rfl rfl rfl ?_
          refine GX.done ?_
          refine WK.seq ?_
          refine WK.drawn mixed ?_
          refine RD.pure (v' := .int .u32 tag2) rfl rfl rfl rfl rfl ?_
          refine RD.bsro (es := (([tag2] : List Int)).map c_u32) rfl rfl rfl rfl ?_
          refine RD.pureW (v' := .agg [.int .i64 1, .bool false, .ro 6 (([] : List TRule).map TRule.c), .int .i64 (-1), .int .i64 0, .int .i64 16777215, .ro 1 (([tag2] : List Int).map c_u32), .int .i64 (-1), .int .i64 0, .int .i64 (-1), .bool false, .int .u32 0]) rfl rfl rfl rfl (.agg (.cons .refl (.cons .refl (.cons .nil .refl)))) ?_
          refine RD.step (v' := .own 3 12 0 (([(⟨1, false, ([] : List TRule), (-1), 0, 16777215, ([tag2] : List Int), (-1), 0, (-1), false, 0⟩ : TClause)] : List TClause)).length) (heap' := [(0, .box (TRoute.c t1)), (1, .row 12 39 (k7.map TClause.c)), (2, .box (TRoute.c c56a)), (3, .row 12 39 (([(⟨1, false, ([] : List TRule), (-1), 0, 16777215, ([tag2] : List Int), (-1), 0, (-1), false, 0⟩ : TClause)] : List TClause).map TClause.c))]) (next' := 4) rfl rfl rfl rfl rfl rfl rfl ?_
          refine RD.pure (v' := .own 3 12 0 (([(⟨1, false, ([] : List TRule), (-1), 0, 16777215, ([tag2] : List Int), (-1), 0, (-1), false, 0⟩ : TClause)] : List TClause)).length) rfl rfl rfl rfl rfl ?_
          refine RD.done0 ?_
          refine WK.seq ?_
          refine WK.seq ?_
          refine WK.regx mixed ?_
          refine GX.pure (v' := .int .i64 0) rfl rfl rfl rfl rfl ?_
          refine GX.done ?_
          refine WK.len (t := 0) rfl (by simp) (fun hlen_42 => ?_)
          rw [List.length_map] at hlen_42
          generalize hZ_42 : F3_crossroadslaw08_RmapTags_l1 ([(⟨1, false, ([] : List TRule), (-1), 0, 16777215, ([tag2] : List Int), (-1), 0, (-1), false, 0⟩ : TClause)] : List TClause) 0 m0 = Z_42 at hR
          refine WK.forK (fun k s => ∃ (i14 : Nat) (deny13 : List TClause), i14 ≤ m0.length ∧ k = m0.length - i14 ∧ deny13.length ≤ i14 + 1 ∧ F3_crossroadslaw08_RmapTags_l1 deny13 i14 (m0.drop i14) = Z_42 ∧ s = ⟨[(0, .ro 12 (m0.map TClause.c)), (2, .int .u32 tag2), (4, .ptr 0 0), (10, .ptr 1 0), (11, .bool c56b), (13, .own 2 12 0 deny13.length), (14, .int .i64 (i14 : Int))], [(0, .box (TRoute.c t1)), (1, .box (TRoute.c c56a)), (2, .row 12 39 (deny13.map TClause.c))], 3⟩) m0.length ⟨⟨[(0, .ro 12 (m0.map TClause.c)), (2, .int .u32 tag2), (4, .ptr 0 0), (10, .ptr 1 0), (11, .bool c56b), (13, .own 2 12 0 ([(⟨1, false, ([] : List TRule), (-1), 0, 16777215, ([tag2] : List Int), (-1), 0, (-1), false, 0⟩ : TClause)] : List TClause).length), (14, .int .i64 (0 : Int))], [(0, .box (TRoute.c t1)), (1, .box (TRoute.c c56a)), (2, .row 12 39 (([(⟨1, false, ([] : List TRule), (-1), 0, 16777215, ([tag2] : List Int), (-1), 0, (-1), false, 0⟩ : TClause)] : List TClause).map TClause.c))], 3⟩, Conv.keep [0, 2, 3] [] [0, 2, 4, 10, 11, 13, 14] rfl rfl (viewE_cons rfl rfl (viewE_cons rfl rfl (viewE_cons rfl rfl (viewE_cons rfl rfl (viewE_cons rfl rfl (viewE_cons rfl rfl (viewE_cons rfl rfl viewE_nil))))))) rfl rfl, 0, ([(⟨1, false, ([] : List TRule), (-1), 0, 16777215, ([tag2] : List Int), (-1), 0, (-1), false, 0⟩ : TClause)] : List TClause), (by first | omega | ((try simp only [List.length_append, List.length_cons, List.length_nil] at *) <;> omega) | (have hlf := may03_len (by assumption) (by assumption); omega)), rfl, (by first | omega | ((try simp only [List.length_append, List.length_cons, List.length_nil] at *) <;> omega) | (have hlf := may03_len (by assumption) (by assumption); omega)), hZ_42, rfl⟩ ?_
          rintro _ _ ⟨i14, deny13, hi_42, rfl, hinv42_deny13, hL_42, rfl⟩ again_42 out_42 Q_42 hagain_42 hout_42 hQ_42
          refine WK.seq ?_
          refine WK.seq ?_
          refine WK.regx mixed ?_
          refine GX.pure (v' := .int .i64 (i14 : Int)) rfl rfl rfl rfl rfl ?_
          refine GX.pure (v' := .ro 12 (m0.map TClause.c)) rfl rfl rfl rfl rfl ?_
          refine GX.pure (v' := .int .i64 (m0.length : Int)) rfl rfl rfl rfl (len_map _ _) ?_
          refine GX.pure (v' := .bool (decide ((i14 : Int) < (m0.length : Int)))) rfl rfl rfl rfl rfl ?_
          refine GX.done ?_
          rcases bool_two (decide ((i14 : Int) < (m0.length : Int))) with hb43 | hb43
          · rw [hb43]
            rw [drop_end hb43, F3_crossroadslaw08_RmapTags_l1] at hL_42
            refine WK.condF rfl ?_
            refine WK.exit ?_
            refine QF.exit (hout_42 _ ?_)
            subst hL_42
            try dsimp only [cond_true, cond_false] at hR
            refine WK.seq ?_
            refine WK.regx mixed ?_
            refine GX.pure (v' := .own 2 12 0 deny13.length) rfl rfl rfl rfl rfl ?_
            refine GX.pure (v' := .agg (TRoute.c t1)) rfl rfl rfl rfl rfl ?_
            generalize hc84 : F13_rmap_Eval deny13 t1 = c84 at hR
            obtain ⟨c84a, c84b, c84c⟩ := c84; try dsimp only at hR
            refine GX.callbp (r := .tup [.agg [.int .u32 c84a.P.A, .int .i64 c84a.P.N, .int .i64 c84a.Kind, .int .i64 c84a.Cost, .int .u32 c84a.Tag], .bool c84b, .int .i64 c84c]) [2] rfl rfl rfl (viewGo_cons (view_rowT rfl rfl) (viewGo_cons rfl viewGo_nil)) (f13_ok deny13 t1 _ hc84) rfl rfl ?_
            refine GX.pure (v' := .tup [.agg [.int .u32 c84a.P.A, .int .i64 c84a.P.N, .int .i64 c84a.Kind, .int .i64 c84a.Cost, .int .u32 c84a.Tag], .bool c84b, .int .i64 c84c]) rfl rfl rfl rfl rfl ?_
            refine GX.pure (v' := .agg [.int .u32 c84a.P.A, .int .i64 c84a.P.N, .int .i64 c84a.Kind, .int .i64 c84a.Cost, .int .u32 c84a.Tag]) rfl rfl rfl rfl rfl ?_
            refine GX.pure (v' := .bool c84b) rfl rfl rfl rfl rfl ?_
            refine GX.pure (v' := .int .i64 c84c) rfl rfl rfl rfl rfl ?_
            refine GX.step (v' := .ptr 3 0) (heap' := [(0, .box (TRoute.c t1)), (1, .box (TRoute.c c56a)), (2, .row 12 39 (deny13.map TClause.c)), (3, .box [.int .u32 0, .int .i64 0, .int .i64 0, .int .i64 0, .int .u32 0])]) (next' := 4) rfl rfl rfl rfl rfl rfl rfl ?_
            refine GX.step0 (heap' := [(0, .box (TRoute.c t1)), (1, .box (TRoute.c c56a)), (2, .row 12 39 (deny13.map TClause.c)), (3, .box (TRoute.c c84a))]) (next' := 4) rfl rfl rfl rfl rfl ?_
            refine GX.pure (v' := .bool c84b) rfl rfl rfl rfl rfl ?_
            refine GX.pure (v' := .int .i64 c84c) rfl rfl rfl rfl rfl ?_
            refine GX.done ?_
            refine WK.seq ?_
            refine WK.seq ?_
            refine WK.regx mixed ?_
            refine GX.pure (v' := .bool c56b) rfl rfl rfl rfl rfl ?_
            refine GX.pure (v' := .bool c56b) rfl rfl rfl rfl rfl ?_
            rcases bool_two (c56b) with hb44 | hb44
            · rw [hb44]; try simp only [hb44, cond_true, cond_false, Bool.true_and, Bool.false_and, Bool.true_or, Bool.false_or, Bool.not_true, Bool.not_false] at hR
              refine GX.skip rfl rfl ?_
              refine GX.skip rfl rfl ?_
              refine GX.skip rfl rfl ?_
              refine GX.skip rfl rfl ?_
              refine GX.skip rfl rfl ?_
              refine GX.skip rfl rfl ?_
              refine GX.skip rfl rfl ?_
              refine GX.skip rfl rfl ?_
              refine GX.skip rfl rfl ?_
              refine GX.skip rfl rfl ?_
              refine GX.skip rfl rfl ?_
              refine GX.skip rfl rfl ?_
              refine GX.skip rfl rfl ?_
              refine GX.skip rfl rfl ?_
              refine GX.skip rfl rfl ?_
              refine GX.skip rfl rfl ?_
              refine GX.skip rfl rfl ?_
              refine GX.pure (v' := .bool false) rfl rfl rfl rfl rfl ?_
              refine GX.done ?_
              refine WK.condF rfl ?_
              refine WK.skip ?_
              refine WK.seq ?_
              refine WK.regx mixed ?_
              generalize hc108 : F12_crossroadslaw08_alive = c108 at hR
              try dsimp only at hR
              refine GX.callp (r := .bool c108) rfl rfl rfl (f12_ok  _ hc108) rfl rfl ?_
              refine GX.pure (v' := .bool c108) rfl rfl rfl rfl rfl ?_
              rcases bool_two (c108) with hb45 | hb45
              · rw [hb45]; try simp only [hb45, cond_true, cond_false, Bool.true_and, Bool.false_and, Bool.true_or, Bool.false_or, Bool.not_true, Bool.not_false] at hR
                refine GX.skip rfl rfl ?_
                refine GX.skip rfl rfl ?_
                refine GX.skip rfl rfl ?_
                refine GX.skip rfl rfl ?_
                refine GX.skip rfl rfl ?_
                refine GX.skip rfl rfl ?_
                refine GX.skip rfl rfl ?_
                refine GX.skip rfl rfl ?_
                refine GX.pure (v' := .bool false) rfl rfl rfl rfl rfl ?_
                refine GX.pure (v' := .bool false) rfl rfl rfl rfl rfl ?_
                refine GX.done ?_
                refine WK.ret ?_
                subst hR
                exact RetQ.fr [] (.inr rfl) rfl rfl rfl rfl
              · rw [hb45]; try simp only [hb45, cond_true, cond_false, Bool.true_and, Bool.false_and, Bool.true_or, Bool.false_or, Bool.not_true, Bool.not_false] at hR
                refine GX.pure (v' := .bool c84b) rfl rfl rfl rfl rfl ?_
                refine GX.pure (v' := .bool (!c84b)) rfl rfl rfl rfl rfl ?_
                refine GX.pure (v' := .bool (!c84b)) rfl rfl rfl rfl rfl ?_
                rcases bool_two (c84b) with hb46 | hb46
                · rw [hb46]; try simp only [hb46, cond_true, cond_false, Bool.true_and, Bool.false_and, Bool.true_or, Bool.false_or, Bool.not_true, Bool.not_false] at hR
                  refine GX.skip rfl rfl ?_
                  refine GX.skip rfl rfl ?_
                  refine GX.skip rfl rfl ?_
                  refine GX.skip rfl rfl ?_
                  refine GX.pure (v' := .bool true) rfl rfl rfl rfl rfl ?_
                  refine GX.pure (v' := .bool true) rfl rfl rfl rfl rfl ?_
                  refine GX.pure (v' := .bool true) rfl rfl rfl rfl rfl ?_
                  refine GX.done ?_
                  refine WK.ret ?_
                  subst hR
                  exact RetQ.fr [] (.inr rfl) rfl rfl rfl rfl
                · rw [hb46]; try simp only [hb46, cond_true, cond_false, Bool.true_and, Bool.false_and, Bool.true_or, Bool.false_or, Bool.not_true, Bool.not_false] at hR
                  refine GX.pure (v' := .ptr 0 4) rfl rfl rfl rfl rfl ?_
                  refine GX.pure (v' := .int .u32 t1.Tag) rfl rfl rfl rfl rfl ?_
                  refine GX.pure (v' := .int .u32 tag2) rfl rfl rfl rfl rfl ?_
                  refine GX.pure (v' := .bool (!decide (t1.Tag = tag2))) rfl rfl rfl rfl rfl ?_
                  refine GX.pure (v' := .bool (!decide (t1.Tag = tag2))) rfl rfl rfl rfl rfl ?_
                  refine GX.pure (v' := .bool (!decide (t1.Tag = tag2))) rfl rfl rfl rfl rfl ?_
                  refine GX.pure (v' := .bool (!decide (t1.Tag = tag2))) rfl rfl rfl rfl rfl ?_
                  refine GX.done ?_
                  refine WK.ret ?_
                  subst hR
                  exact RetQ.fr [] (.inr rfl) rfl rfl rfl rfl
            · rw [hb44]; try simp only [hb44, cond_true, cond_false, Bool.true_and, Bool.false_and, Bool.true_or, Bool.false_or, Bool.not_true, Bool.not_false] at hR
              refine GX.pure (v' := .ptr 1 4) rfl rfl rfl rfl rfl ?_
              refine GX.pure (v' := .int .u32 c56a.Tag) rfl rfl rfl rfl rfl ?_
              refine GX.pure (v' := .int .u32 tag2) rfl rfl rfl rfl rfl ?_
              refine GX.pure (v' := .bool (!decide (c56a.Tag = tag2))) rfl rfl rfl rfl rfl ?_
              refine GX.pure (v' := .bool (!decide (c56a.Tag = tag2))) rfl rfl rfl rfl rfl ?_
              rcases bool_two (decide (c56a.Tag = tag2)) with hb47 | hb47
              · rw [hb47]; try simp only [hb47, cond_true, cond_false, Bool.true_and, Bool.false_and, Bool.true_or, Bool.false_or, Bool.not_true, Bool.not_false] at hR
                refine GX.skip rfl rfl ?_
                refine GX.skip rfl rfl ?_
                refine GX.skip rfl rfl ?_
                refine GX.skip rfl rfl ?_
                refine GX.skip rfl rfl ?_
                refine GX.pure (v' := .bool true) rfl rfl rfl rfl rfl ?_
                refine GX.pure (v' := .bool true) rfl rfl rfl rfl rfl ?_
                refine GX.skip rfl rfl ?_
                refine GX.skip rfl rfl ?_
                refine GX.skip rfl rfl ?_
                refine GX.skip rfl rfl ?_
                refine GX.pure (v' := .bool true) rfl rfl rfl rfl rfl ?_
                refine GX.pure (v' := .bool true) rfl rfl rfl rfl rfl ?_
                refine GX.done ?_
                refine WK.condT rfl ?_
                refine WK.seq ?_
                refine WK.regx mixed ?_
                refine GX.pure (v' := .bool false) rfl rfl rfl rfl rfl ?_
                refine GX.done ?_
                refine WK.ret ?_
                subst hR
                exact RetQ.fr [] (.inr rfl) rfl rfl rfl rfl
              · rw [hb47]; try simp only [hb47, cond_true, cond_false, Bool.true_and, Bool.false_and, Bool.true_or, Bool.false_or, Bool.not_true, Bool.not_false] at hR
                refine GX.pure (v' := .ptr 1 0) rfl rfl rfl rfl rfl ?_
                refine GX.pure (v' := .agg [.int .u32 c56a.P.A, .int .i64 c56a.P.N]) rfl rfl rfl rfl rfl ?_
                refine GX.pure (v' := .ptr 0 0) rfl rfl rfl rfl rfl ?_
                refine GX.pure (v' := .agg [.int .u32 t1.P.A, .int .i64 t1.P.N]) rfl rfl rfl rfl rfl ?_
                refine GX.pure (v' := .bool (!(decide (c56a.P.A = t1.P.A) && (decide (c56a.P.N = t1.P.N) && true)))) rfl rfl rfl rfl rfl ?_
                refine GX.pure (v' := .bool (!(decide (c56a.P.A = t1.P.A) && (decide (c56a.P.N = t1.P.N) && true)))) rfl rfl rfl rfl rfl ?_
                refine GX.pure (v' := .bool (!(decide (c56a.P.A = t1.P.A) && (decide (c56a.P.N = t1.P.N) && true)))) rfl rfl rfl rfl rfl ?_
                rcases bool_two (decide (c56a.P.A = t1.P.A) && (decide (c56a.P.N = t1.P.N) && true)) with hb48 | hb48
                · rw [hb48]; try simp only [hb48, cond_true, cond_false, Bool.true_and, Bool.false_and, Bool.true_or, Bool.false_or, Bool.not_true, Bool.not_false] at hR
                  refine GX.skip rfl rfl ?_
                  refine GX.skip rfl rfl ?_
                  refine GX.skip rfl rfl ?_
                  refine GX.skip rfl rfl ?_
                  refine GX.pure (v' := .bool true) rfl rfl rfl rfl rfl ?_
                  refine GX.pure (v' := .bool true) rfl rfl rfl rfl rfl ?_
                  refine GX.done ?_
                  refine WK.condT rfl ?_
                  refine WK.seq ?_
                  refine WK.regx mixed ?_
                  refine GX.pure (v' := .bool false) rfl rfl rfl rfl rfl ?_
                  refine GX.done ?_
                  refine WK.ret ?_
                  subst hR
                  exact RetQ.fr [] (.inr rfl) rfl rfl rfl rfl
                · rw [hb48]; try simp only [hb48, cond_true, cond_false, Bool.true_and, Bool.false_and, Bool.true_or, Bool.false_or, Bool.not_true, Bool.not_false] at hR
                  refine GX.pure (v' := .agg (TRoute.c c56a)) rfl rfl rfl rfl rfl ?_
                  generalize hc103 : F11_crossroadslaw08_route c56a = c103 at hR
                  try dsimp only at hR
                  refine GX.callp (r := .agg [.int .u32 c103.P.A, .int .i64 c103.P.N, .int .i64 c103.Kind, .int .i64 c103.Cost, .int .u32 c103.Tag]) rfl rfl rfl (f11_ok c56a _ hc103) rfl rfl ?_
                  generalize hc104 : F10_crossroadsref08_MayRoute c103 = c104 at hR
                  try dsimp only at hR
                  refine GX.callp (r := .bool c104) rfl rfl rfl (f10_ok c103 _ hc104) rfl rfl ?_
                  refine GX.pure (v' := .bool (!c104)) rfl rfl rfl rfl rfl ?_
                  refine GX.pure (v' := .bool (!c104)) rfl rfl rfl rfl rfl ?_
                  refine GX.pure (v' := .bool (!c104)) rfl rfl rfl rfl rfl ?_
                  refine GX.done ?_
                  rcases bool_two (c104) with hb49 | hb49
                  · rw [hb49]; try simp only [hb49, cond_true, cond_false, Bool.true_and, Bool.false_and, Bool.true_or, Bool.false_or, Bool.not_true, Bool.not_false] at hR
                    refine WK.condT rfl ?_
                    refine WK.seq ?_
                    refine WK.regx mixed ?_
                    refine GX.pure (v' := .bool false) rfl rfl rfl rfl rfl ?_
                    refine GX.done ?_
                    refine WK.ret ?_
                    subst hR
                    exact RetQ.fr [] (.inr rfl) rfl rfl rfl rfl
                  · rw [hb49]; try simp only [hb49, cond_true, cond_false, Bool.true_and, Bool.false_and, Bool.true_or, Bool.false_or, Bool.not_true, Bool.not_false] at hR
                    refine WK.condF rfl ?_
                    refine WK.skip ?_
                    refine WK.seq ?_
                    refine WK.regx mixed ?_
                    generalize hc108 : F12_crossroadslaw08_alive = c108 at hR
                    try dsimp only at hR
                    refine GX.callp (r := .bool c108) rfl rfl rfl (f12_ok  _ hc108) rfl rfl ?_
                    refine GX.pure (v' := .bool c108) rfl rfl rfl rfl rfl ?_
                    rcases bool_two (c108) with hb50 | hb50
                    · rw [hb50]; try simp only [hb50, cond_true, cond_false, Bool.true_and, Bool.false_and, Bool.true_or, Bool.false_or, Bool.not_true, Bool.not_false] at hR
                      refine GX.skip rfl rfl ?_
                      refine GX.skip rfl rfl ?_
                      refine GX.skip rfl rfl ?_
                      refine GX.skip rfl rfl ?_
                      refine GX.skip rfl rfl ?_
                      refine GX.skip rfl rfl ?_
                      refine GX.skip rfl rfl ?_
                      refine GX.skip rfl rfl ?_
                      refine GX.pure (v' := .bool false) rfl rfl rfl rfl rfl ?_
                      refine GX.pure (v' := .bool false) rfl rfl rfl rfl rfl ?_
                      refine GX.done ?_
                      refine WK.ret ?_
                      subst hR
                      exact RetQ.fr [] (.inr rfl) rfl rfl rfl rfl
                    · rw [hb50]; try simp only [hb50, cond_true, cond_false, Bool.true_and, Bool.false_and, Bool.true_or, Bool.false_or, Bool.not_true, Bool.not_false] at hR
                      refine GX.pure (v' := .bool c84b) rfl rfl rfl rfl rfl ?_
                      refine GX.pure (v' := .bool (!c84b)) rfl rfl rfl rfl rfl ?_
                      refine GX.pure (v' := .bool (!c84b)) rfl rfl rfl rfl rfl ?_
                      rcases bool_two (c84b) with hb51 | hb51
                      · rw [hb51]; try simp only [hb51, cond_true, cond_false, Bool.true_and, Bool.false_and, Bool.true_or, Bool.false_or, Bool.not_true, Bool.not_false] at hR
                        refine GX.skip rfl rfl ?_
                        refine GX.skip rfl rfl ?_
                        refine GX.skip rfl rfl ?_
                        refine GX.skip rfl rfl ?_
                        refine GX.pure (v' := .bool true) rfl rfl rfl rfl rfl ?_
                        refine GX.pure (v' := .bool true) rfl rfl rfl rfl rfl ?_
                        refine GX.pure (v' := .bool true) rfl rfl rfl rfl rfl ?_
                        refine GX.done ?_
                        refine WK.ret ?_
                        subst hR
                        exact RetQ.fr [] (.inr rfl) rfl rfl rfl rfl
                      · rw [hb51]; try simp only [hb51, cond_true, cond_false, Bool.true_and, Bool.false_and, Bool.true_or, Bool.false_or, Bool.not_true, Bool.not_false] at hR
                        refine GX.pure (v' := .ptr 0 4) rfl rfl rfl rfl rfl ?_
                        refine GX.pure (v' := .int .u32 t1.Tag) rfl rfl rfl rfl rfl ?_
                        refine GX.pure (v' := .int .u32 tag2) rfl rfl rfl rfl rfl ?_
                        refine GX.pure (v' := .bool (!decide (t1.Tag = tag2))) rfl rfl rfl rfl rfl ?_
                        refine GX.pure (v' := .bool (!decide (t1.Tag = tag2))) rfl rfl rfl rfl rfl ?_
                        refine GX.pure (v' := .bool (!decide (t1.Tag = tag2))) rfl rfl rfl rfl rfl ?_
                        refine GX.pure (v' := .bool (!decide (t1.Tag = tag2))) rfl rfl rfl rfl rfl ?_
                        refine GX.done ?_
                        refine WK.ret ?_
                        subst hR
                        exact RetQ.fr [] (.inr rfl) rfl rfl rfl rfl
          · rw [hb43]
            obtain ⟨x14, hx42, hd42, hlt42⟩ := drop_more hb43
            rw [hd42, F3_crossroadslaw08_RmapTags_l1] at hL_42
            refine WK.condT rfl ?_
            refine WK.skip ?_
            refine WK.seq ?_
            refine WK.blockK (fun _ hK52 => ?_)
            refine WK.seq ?_
            refine WK.regx mixed ?_
            refine GX.pure (v' := .ro 12 (m0.map TClause.c)) rfl rfl rfl rfl rfl ?_
            refine GX.pure (v' := .int .i64 (i14 : Int)) rfl rfl rfl rfl rfl ?_
            refine GX.idxT (c := TClause.c) (x := x14) rfl rfl rfl (Int.natCast_nonneg _) hx42 ?_
            refine GX.pure (v' := .agg (TClause.c x14)) rfl rfl rfl rfl rfl ?_
            refine GX.step (v' := .ptr 3 0) (heap' := [(0, .box (TRoute.c t1)), (1, .box (TRoute.c c56a)), (2, .row 12 39 (deny13.map TClause.c)), (3, .box [.int .i64 0, .bool false, .nils, .int .i64 0, .int .i64 0, .int .i64 0, .nils, .int .i64 0, .int .i64 0, .int .i64 0, .bool false, .int .u32 0])]) (next' := 4) rfl rfl rfl rfl rfl rfl rfl ?_
            refine GX.step0 (heap' := [(0, .box (TRoute.c t1)), (1, .box (TRoute.c c56a)), (2, .row 12 39 (deny13.map TClause.c)), (3, .box (TClause.c x14))]) (next' := 4) rfl rfl rfl rfl rfl ?_
            refine GX.done ?_
            refine WK.seq ?_
            refine WK.regx mixed ?_
            refine GX.pure (v' := .int .i64 (i14 : Int)) rfl rfl rfl rfl rfl ?_
            refine GX.pure (v' := .int .i64 (IntKind.i64.wrap ((i14 : Int) + 2))) rfl rfl rfl rfl rfl ?_
            refine GX.pure (v' := .ptr 3 0) rfl rfl rfl rfl rfl ?_
            refine GX.step0 (heap' := [(0, .box (TRoute.c t1)), (1, .box (TRoute.c c56a)), (2, .row 12 39 (deny13.map TClause.c)), (3, .box [.int .i64 (IntKind.i64.wrap ((i14 : Int) + 2)), .bool x14.Permit, .ro 6 (x14.Listf.map TRule.c), .int .i64 x14.MKind, .int .i64 x14.MLow, .int .i64 x14.MHigh, .ro 1 (x14.MTags.map c_u32), .int .i64 x14.SCost, .int .i64 x14.SPlus, .int .i64 x14.SKind, .bool x14.SetTag, .int .u32 x14.STag])]) (next' := 4) rfl rfl rfl rfl rfl ?_
            refine GX.done ?_
            refine WK.regx mixed ?_
            refine GX.pure (v' := .own 2 12 0 deny13.length) rfl rfl rfl rfl rfl ?_
            refine GX.pure (v' := .agg [.int .i64 (IntKind.i64.wrap ((i14 : Int) + 2)), .bool x14.Permit, .ro 6 (x14.Listf.map TRule.c), .int .i64 x14.MKind, .int .i64 x14.MLow, .int .i64 x14.MHigh, .ro 1 (x14.MTags.map c_u32), .int .i64 x14.SCost, .int .i64 x14.SPlus, .int .i64 x14.SKind, .bool x14.SetTag, .int .u32 x14.STag]) rfl rfl rfl rfl rfl ?_
            refine GX.step (v' := .own 4 12 0 (([(⟨IntKind.i64.wrap ((i14 : Int) + 2), x14.Permit, x14.Listf, x14.MKind, x14.MLow, x14.MHigh, x14.MTags, x14.SCost, x14.SPlus, x14.SKind, x14.SetTag, x14.STag⟩ : TClause)] : List TClause)).length) (heap' := [(0, .box (TRoute.c t1)), (1, .box (TRoute.c c56a)), (2, .row 12 39 (deny13.map TClause.c)), (3, .box [.int .i64 (IntKind.i64.wrap ((i14 : Int) + 2)), .bool x14.Permit, .ro 6 (x14.Listf.map TRule.c), .int .i64 x14.MKind, .int .i64 x14.MLow, .int .i64 x14.MHigh, .ro 1 (x14.MTags.map c_u32), .int .i64 x14.SCost, .int .i64 x14.SPlus, .int .i64 x14.SKind, .bool x14.SetTag, .int .u32 x14.STag]), (4, .row 12 39 (([(⟨IntKind.i64.wrap ((i14 : Int) + 2), x14.Permit, x14.Listf, x14.MKind, x14.MLow, x14.MHigh, x14.MTags, x14.SCost, x14.SPlus, x14.SKind, x14.SetTag, x14.STag⟩ : TClause)] : List TClause).map TClause.c))]) (next' := 5) rfl rfl rfl rfl rfl rfl rfl ?_
            refine GX.appT (c := TClause.c) (L := deny13) (X := ([(⟨IntKind.i64.wrap ((i14 : Int) + 2), x14.Permit, x14.Listf, x14.MKind, x14.MLow, x14.MHigh, x14.MTags, x14.SCost, x14.SPlus, x14.SKind, x14.SetTag, x14.STag⟩ : TClause)] : List TClause)) (heap' := [(0, .box (TRoute.c t1)), (1, .box (TRoute.c c56a)), (3, .box [.int .i64 (IntKind.i64.wrap ((i14 : Int) + 2)), .bool x14.Permit, .ro 6 (x14.Listf.map TRule.c), .int .i64 x14.MKind, .int .i64 x14.MLow, .int .i64 x14.MHigh, .ro 1 (x14.MTags.map c_u32), .int .i64 x14.SCost, .int .i64 x14.SPlus, .int .i64 x14.SKind, .bool x14.SetTag, .int .u32 x14.STag]), (4, .row 12 39 (([(⟨IntKind.i64.wrap ((i14 : Int) + 2), x14.Permit, x14.Listf, x14.MKind, x14.MLow, x14.MHigh, x14.MTags, x14.SCost, x14.SPlus, x14.SKind, x14.SetTag, x14.STag⟩ : TClause)] : List TClause).map TClause.c)), (5, .row 12 39 ((deny13 ++ ([(⟨IntKind.i64.wrap ((i14 : Int) + 2), x14.Permit, x14.Listf, x14.MKind, x14.MLow, x14.MHigh, x14.MTags, x14.SCost, x14.SPlus, x14.SKind, x14.SetTag, x14.STag⟩ : TClause)] : List TClause)).map TClause.c))]) (next' := 6) rfl rfl rfl rfl (elems_own rfl) (by first | omega | assumption | ((try simp only [List.length_append, List.length_cons, List.length_nil, List.length_map, decide_eq_true_eq, decide_eq_false_iff_not] at *) <;> omega) | exact hp0 _ (List.mem_of_getElem? (by assumption)) | exact hp1 _ (List.mem_of_getElem? (by assumption)) | exact hp2 _ (List.mem_of_getElem? (by assumption)) | exact hp3 _ (List.mem_of_getElem? (by assumption)) | exact hp4 _ (List.mem_of_getElem? (by assumption)) | exact hp5 _ (List.mem_of_getElem? (by assumption)) | exact small_len (by assumption) (by assumption) | exact small_rules (by assumption) (by assumption) | exact small_rules (by assumption) (by assumption) _ (List.mem_of_getElem? (by assumption)) | (have hszf := small_len (by assumption) (by assumption); (try simp only [List.length_append, List.length_cons, List.length_nil, List.length_map] at *) <;> omega)) (by first | omega | assumption | ((try simp only [List.length_append, List.length_cons, List.length_nil, List.length_map, decide_eq_true_eq, decide_eq_false_iff_not] at *) <;> omega) | exact hp0 _ (List.mem_of_getElem? (by assumption)) | exact hp1 _ (List.mem_of_getElem? (by assumption)) | exact hp2 _ (List.mem_of_getElem? (by assumption)) | exact hp3 _ (List.mem_of_getElem? (by assumption)) | exact hp4 _ (List.mem_of_getElem? (by assumption)) | exact hp5 _ (List.mem_of_getElem? (by assumption)) | exact small_len (by assumption) (by assumption) | exact small_rules (by assumption) (by assumption) | exact small_rules (by assumption) (by assumption) _ (List.mem_of_getElem? (by assumption)) | (have hszf := small_len (by assumption) (by assumption); (try simp only [List.length_append, List.length_cons, List.length_nil, List.length_map] at *) <;> omega)) rfl rfl rfl rfl ?_
            refine GX.pure (v' := .own 5 12 0 (deny13 ++ ([(⟨IntKind.i64.wrap ((i14 : Int) + 2), x14.Permit, x14.Listf, x14.MKind, x14.MLow, x14.MHigh, x14.MTags, x14.SCost, x14.SPlus, x14.SKind, x14.SetTag, x14.STag⟩ : TClause)] : List TClause)).length) rfl rfl rfl rfl rfl ?_
            refine GX.done ?_
            refine WK.nil (QF.normal (hK52 _ ?_))
            refine WK.regx mixed ?_
            refine GX.pure (v' := .int .i64 (i14 : Int)) rfl rfl rfl rfl rfl ?_
            refine GX.pure (v' := .int .i64 ((i14 + 1 : Nat) : Int)) rfl rfl rfl rfl (congrArg (PVal.int .i64) (wrap_up hlt42 hlen_42)) ?_
            refine GX.pure (v' := .int .i64 ((i14 + 1 : Nat) : Int)) rfl rfl rfl rfl rfl ?_
            refine GX.done ?_
            refine WK.nil (QF.normal ?_)
            exact hagain_42 _ (m0.length - (i14 + 1)) ⟨[(0, .ro 12 (m0.map TClause.c)), (2, .int .u32 tag2), (4, .ptr 0 0), (10, .ptr 1 0), (11, .bool c56b), (13, .own 2 12 0 (deny13 ++ ([(⟨IntKind.i64.wrap ((i14 : Int) + 2), x14.Permit, x14.Listf, x14.MKind, x14.MLow, x14.MHigh, x14.MTags, x14.SCost, x14.SPlus, x14.SKind, x14.SetTag, x14.STag⟩ : TClause)] : List TClause)).length), (14, .int .i64 ((i14 + 1) : Int))], [(0, .box (TRoute.c t1)), (1, .box (TRoute.c c56a)), (2, .row 12 39 ((deny13 ++ ([(⟨IntKind.i64.wrap ((i14 : Int) + 2), x14.Permit, x14.Listf, x14.MKind, x14.MLow, x14.MHigh, x14.MTags, x14.SCost, x14.SPlus, x14.SKind, x14.SetTag, x14.STag⟩ : TClause)] : List TClause)).map TClause.c))], 3⟩ (by first | omega | ((try simp only [List.length_append, List.length_cons, List.length_nil] at *) <;> omega) | (have hlf := may03_len (by assumption) (by assumption); omega)) (Conv.keep [0, 1, 5] [] [0, 2, 4, 10, 11, 13, 14] rfl rfl (viewE_cons rfl rfl (viewE_cons rfl rfl (viewE_cons rfl rfl (viewE_cons rfl rfl (viewE_cons rfl rfl (viewE_cons rfl rfl (viewE_cons rfl rfl viewE_nil))))))) rfl rfl) ⟨i14 + 1, (deny13 ++ ([(⟨IntKind.i64.wrap ((i14 : Int) + 2), x14.Permit, x14.Listf, x14.MKind, x14.MLow, x14.MHigh, x14.MTags, x14.SCost, x14.SPlus, x14.SKind, x14.SetTag, x14.STag⟩ : TClause)] : List TClause)), (by first | omega | ((try simp only [List.length_append, List.length_cons, List.length_nil] at *) <;> omega) | (have hlf := may03_len (by assumption) (by assumption); omega)), rfl, (by first | omega | ((try simp only [List.length_append, List.length_cons, List.length_nil] at *) <;> omega) | (have hlf := may03_len (by assumption) (by assumption); omega)), hL_42, rfl⟩
        · rw [hb30]
          obtain ⟨x8, hx29, hd29, hlt29⟩ := drop_more hb30
          rw [hd29, F3_crossroadslaw08_RmapTags_l2] at hL_29
          refine WK.condT rfl ?_
          refine WK.skip ?_
          refine WK.seq ?_
          refine WK.blockK (fun _ hK53 => ?_)
          refine WK.seq ?_
          refine WK.regx mixed ?_
          refine GX.pure (v' := .ro 12 (m0.map TClause.c)) rfl rfl rfl rfl rfl ?_
          refine GX.pure (v' := .int .i64 (i8 : Int)) rfl rfl rfl rfl rfl ?_
          refine GX.idxT (c := TClause.c) (x := x8) rfl rfl rfl (Int.natCast_nonneg _) hx29 ?_
          refine GX.pure (v' := .agg (TClause.c x8)) rfl rfl rfl rfl rfl ?_
          refine GX.step (v' := .ptr 2 0) (heap' := [(0, .box (TRoute.c t1)), (1, .row 12 39 (k7.map TClause.c)), (2, .box [.int .i64 0, .bool false, .nils, .int .i64 0, .int .i64 0, .int .i64 0, .nils, .int .i64 0, .int .i64 0, .int .i64 0, .bool false, .int .u32 0])]) (next' := 3) rfl rfl rfl rfl rfl rfl rfl ?_
          refine GX.step0 (heap' := [(0, .box (TRoute.c t1)), (1, .row 12 39 (k7.map TClause.c)), (2, .box (TClause.c x8))]) (next' := 3) rfl rfl rfl rfl rfl ?_
          refine GX.done ?_
          refine WK.seq ?_
          refine WK.regx mixed ?_
          refine GX.pure (v' := .ptr 2 10) rfl rfl rfl rfl rfl ?_
          refine GX.step0 (heap' := [(0, .box (TRoute.c t1)), (1, .row 12 39 (k7.map TClause.c)), (2, .box [.int .i64 x8.Seq, .bool x8.Permit, .ro 6 (x8.Listf.map TRule.c), .int .i64 x8.MKind, .int .i64 x8.MLow, .int .i64 x8.MHigh, .ro 1 (x8.MTags.map c_u32), .int .i64 x8.SCost, .int .i64 x8.SPlus, .int .i64 x8.SKind, .bool true, .int .u32 x8.STag])]) (next' := 3) rfl rfl rfl rfl rfl ?_
          refine GX.done ?_
          refine WK.seq ?_
          refine WK.regx mixed ?_
          refine GX.pure (v' := .int .u32 tag2) rfl rfl rfl rfl rfl ?_
          refine GX.pure (v' := .ptr 2 11) rfl rfl rfl rfl rfl ?_
          refine GX.step0 (heap' := [(0, .box (TRoute.c t1)), (1, .row 12 39 (k7.map TClause.c)), (2, .box [.int .i64 x8.Seq, .bool x8.Permit, .ro 6 (x8.Listf.map TRule.c), .int .i64 x8.MKind, .int .i64 x8.MLow, .int .i64 x8.MHigh, .ro 1 (x8.MTags.map c_u32), .int .i64 x8.SCost, .int .i64 x8.SPlus, .int .i64 x8.SKind, .bool true, .int .u32 tag2])]) (next' := 3) rfl rfl rfl rfl rfl ?_
          refine GX.done ?_
          refine WK.regx mixed ?_
          refine GX.pure (v' := .own 1 12 0 k7.length) rfl rfl rfl rfl rfl ?_
          refine GX.pure (v' := .agg [.int .i64 x8.Seq, .bool x8.Permit, .ro 6 (x8.Listf.map TRule.c), .int .i64 x8.MKind, .int .i64 x8.MLow, .int .i64 x8.MHigh, .ro 1 (x8.MTags.map c_u32), .int .i64 x8.SCost, .int .i64 x8.SPlus, .int .i64 x8.SKind, .bool true, .int .u32 tag2]) rfl rfl rfl rfl rfl ?_
          refine GX.step (v' := .own 3 12 0 (([(⟨x8.Seq, x8.Permit, x8.Listf, x8.MKind, x8.MLow, x8.MHigh, x8.MTags, x8.SCost, x8.SPlus, x8.SKind, true, tag2⟩ : TClause)] : List TClause)).length) (heap' := [(0, .box (TRoute.c t1)), (1, .row 12 39 (k7.map TClause.c)), (2, .box [.int .i64 x8.Seq, .bool x8.Permit, .ro 6 (x8.Listf.map TRule.c), .int .i64 x8.MKind, .int .i64 x8.MLow, .int .i64 x8.MHigh, .ro 1 (x8.MTags.map c_u32), .int .i64 x8.SCost, .int .i64 x8.SPlus, .int .i64 x8.SKind, .bool true, .int .u32 tag2]), (3, .row 12 39 (([(⟨x8.Seq, x8.Permit, x8.Listf, x8.MKind, x8.MLow, x8.MHigh, x8.MTags, x8.SCost, x8.SPlus, x8.SKind, true, tag2⟩ : TClause)] : List TClause).map TClause.c))]) (next' := 4) rfl rfl rfl rfl rfl rfl rfl ?_
          refine GX.appT (c := TClause.c) (L := k7) (X := ([(⟨x8.Seq, x8.Permit, x8.Listf, x8.MKind, x8.MLow, x8.MHigh, x8.MTags, x8.SCost, x8.SPlus, x8.SKind, true, tag2⟩ : TClause)] : List TClause)) (heap' := [(0, .box (TRoute.c t1)), (2, .box [.int .i64 x8.Seq, .bool x8.Permit, .ro 6 (x8.Listf.map TRule.c), .int .i64 x8.MKind, .int .i64 x8.MLow, .int .i64 x8.MHigh, .ro 1 (x8.MTags.map c_u32), .int .i64 x8.SCost, .int .i64 x8.SPlus, .int .i64 x8.SKind, .bool true, .int .u32 tag2]), (3, .row 12 39 (([(⟨x8.Seq, x8.Permit, x8.Listf, x8.MKind, x8.MLow, x8.MHigh, x8.MTags, x8.SCost, x8.SPlus, x8.SKind, true, tag2⟩ : TClause)] : List TClause).map TClause.c)), (4, .row 12 39 ((k7 ++ ([(⟨x8.Seq, x8.Permit, x8.Listf, x8.MKind, x8.MLow, x8.MHigh, x8.MTags, x8.SCost, x8.SPlus, x8.SKind, true, tag2⟩ : TClause)] : List TClause)).map TClause.c))]) (next' := 5) rfl rfl rfl rfl (elems_own rfl) (by first | omega | assumption | ((try simp only [List.length_append, List.length_cons, List.length_nil, List.length_map, decide_eq_true_eq, decide_eq_false_iff_not] at *) <;> omega) | exact hp0 _ (List.mem_of_getElem? (by assumption)) | exact hp1 _ (List.mem_of_getElem? (by assumption)) | exact hp2 _ (List.mem_of_getElem? (by assumption)) | exact hp3 _ (List.mem_of_getElem? (by assumption)) | exact hp4 _ (List.mem_of_getElem? (by assumption)) | exact hp5 _ (List.mem_of_getElem? (by assumption)) | exact small_len (by assumption) (by assumption) | exact small_rules (by assumption) (by assumption) | exact small_rules (by assumption) (by assumption) _ (List.mem_of_getElem? (by assumption)) | (have hszf := small_len (by assumption) (by assumption); (try simp only [List.length_append, List.length_cons, List.length_nil, List.length_map] at *) <;> omega)) (by first | omega | assumption | ((try simp only [List.length_append, List.length_cons, List.length_nil, List.length_map, decide_eq_true_eq, decide_eq_false_iff_not] at *) <;> omega) | exact hp0 _ (List.mem_of_getElem? (by assumption)) | exact hp1 _ (List.mem_of_getElem? (by assumption)) | exact hp2 _ (List.mem_of_getElem? (by assumption)) | exact hp3 _ (List.mem_of_getElem? (by assumption)) | exact hp4 _ (List.mem_of_getElem? (by assumption)) | exact hp5 _ (List.mem_of_getElem? (by assumption)) | exact small_len (by assumption) (by assumption) | exact small_rules (by assumption) (by assumption) | exact small_rules (by assumption) (by assumption) _ (List.mem_of_getElem? (by assumption)) | (have hszf := small_len (by assumption) (by assumption); (try simp only [List.length_append, List.length_cons, List.length_nil, List.length_map] at *) <;> omega)) rfl rfl rfl rfl ?_
          refine GX.pure (v' := .own 4 12 0 (k7 ++ ([(⟨x8.Seq, x8.Permit, x8.Listf, x8.MKind, x8.MLow, x8.MHigh, x8.MTags, x8.SCost, x8.SPlus, x8.SKind, true, tag2⟩ : TClause)] : List TClause)).length) rfl rfl rfl rfl rfl ?_
          refine GX.done ?_
          refine WK.nil (QF.normal (hK53 _ ?_))
          refine WK.regx mixed ?_
          refine GX.pure (v' := .int .i64 (i8 : Int)) rfl rfl rfl rfl rfl ?_
          refine GX.pure (v' := .int .i64 ((i8 + 1 : Nat) : Int)) rfl rfl rfl rfl (congrArg (PVal.int .i64) (wrap_up hlt29 hlen_29)) ?_
          refine GX.pure (v' := .int .i64 ((i8 + 1 : Nat) : Int)) rfl rfl rfl rfl rfl ?_
          refine GX.done ?_
          refine WK.nil (QF.normal ?_)
          exact hagain_29 _ (m0.length - (i8 + 1)) ⟨[(0, .ro 12 (m0.map TClause.c)), (2, .int .u32 tag2), (4, .ptr 0 0), (7, .own 1 12 0 (k7 ++ ([(⟨x8.Seq, x8.Permit, x8.Listf, x8.MKind, x8.MLow, x8.MHigh, x8.MTags, x8.SCost, x8.SPlus, x8.SKind, true, tag2⟩ : TClause)] : List TClause)).length), (8, .int .i64 ((i8 + 1) : Int))], [(0, .box (TRoute.c t1)), (1, .row 12 39 ((k7 ++ ([(⟨x8.Seq, x8.Permit, x8.Listf, x8.MKind, x8.MLow, x8.MHigh, x8.MTags, x8.SCost, x8.SPlus, x8.SKind, true, tag2⟩ : TClause)] : List TClause)).map TClause.c))], 2⟩ (by first | omega | ((try simp only [List.length_append, List.length_cons, List.length_nil] at *) <;> omega) | (have hlf := may03_len (by assumption) (by assumption); omega)) (Conv.keep [0, 4] [] [0, 2, 4, 7, 8] rfl rfl (viewE_cons rfl rfl (viewE_cons rfl rfl (viewE_cons rfl rfl (viewE_cons rfl rfl (viewE_cons rfl rfl viewE_nil))))) rfl rfl) ⟨i8 + 1, (k7 ++ ([(⟨x8.Seq, x8.Permit, x8.Listf, x8.MKind, x8.MLow, x8.MHigh, x8.MTags, x8.SCost, x8.SPlus, x8.SKind, true, tag2⟩ : TClause)] : List TClause)), (by first | omega | ((try simp only [List.length_append, List.length_cons, List.length_nil] at *) <;> omega) | (have hlf := may03_len (by assumption) (by assumption); omega)), rfl, (by first | omega | ((try simp only [List.length_append, List.length_cons, List.length_nil] at *) <;> omega) | (have hlf := may03_len (by assumption) (by assumption); omega)), hL_29, rfl⟩

theorem f30_ok (x0 : TClause) (R : Bool) (hR : F30_rmap_MayAll_1 x0 = R) : FnOk Try.prog 30 [.agg (TClause.c x0)] [] 0 (.bool R) [] 0 := by
  refine FnOk.wk i30 rfl rfl ?_
  unfold F30_rmap_MayAll_1 at hR
  change WK _ _ _ [ac30] _ ⟨[(0, .agg (TClause.c x0))], [], 0⟩
  unfold ac30
  refine WK.seq ?_
  refine WK.regx mixed ?_
  refine GX.step (v' := .ptr 0 0) (heap' := [(0, .box (TClause.c x0))]) (next' := 1) rfl rfl rfl rfl rfl rfl rfl ?_
  refine GX.pure (v' := .bool false) rfl rfl rfl rfl rfl ?_
  refine GX.done ?_
  refine WK.seq ?_
  refine WK.regx mixed ?_
  refine GX.pure (v' := .agg (TClause.c x0)) rfl rfl rfl rfl rfl ?_
  generalize hc4 : F15_rmap_May x0 = c4 at hR
  try dsimp only at hR
  refine GX.callp (r := .bool c4) rfl rfl rfl (f15_ok x0 _ hc4) rfl rfl ?_
  refine GX.pure (v' := .bool (!c4)) rfl rfl rfl rfl rfl ?_
  refine GX.pure (v' := .bool (!c4)) rfl rfl rfl rfl rfl ?_
  refine GX.done ?_
  refine WK.ret ?_
  subst hR
  exact RetQ.fr [] (.inr rfl) rfl rfl rfl rfl

theorem f31_ok (s0 : List TClause) (gf1 : FuncId) (gf1f gf1c : List PVal) (hf1 : TClause → Bool) (gf1k : PVal.closed.go gf1f = true ∧ PVal.closed.go gf1c = true) (gf1o : ∀ (y0 : TClause) (R : Bool), hf1 y0 = R → FnOk Try.prog gf1 (gf1f ++ [.agg (TClause.c y0)] ++ gf1c) [] 0 (.bool R) [] 0) (R : Bool) (hR : F31_slices_ContainsFunc s0 hf1 = R) : FnOk Try.prog 31 [.ro 12 (s0.map TClause.c), .fn gf1 gf1f gf1c] [] 0 (.bool R) [] 0 := by
  refine FnOk.wk i31 rfl rfl ?_
  unfold F31_slices_ContainsFunc at hR
  change WK _ _ _ [ac31] _ ⟨[(0, .ro 12 (s0.map TClause.c)), (1, .fn gf1 gf1f gf1c)], [], 0⟩
  unfold ac31
  refine WK.seq ?_
  refine WK.regx mixed ?_
  refine GX.pure (v' := .bool false) rfl rfl rfl rfl rfl ?_
  refine GX.done ?_
  refine WK.seq ?_
  refine WK.regx mixed ?_
  refine GX.pure (v' := .ro 12 (s0.map TClause.c)) rfl rfl rfl rfl rfl ?_
  refine GX.pure (v' := .fn gf1 gf1f gf1c) rfl rfl rfl rfl rfl ?_
  generalize hc7 : F28_slices_IndexFunc s0 hf1 = c7 at hR
  try dsimp only at hR
  refine GX.callp (r := .int .i64 c7) rfl rfl rfl (f28_ok s0 gf1 gf1f gf1c hf1 gf1k gf1o _ hc7) (closedGo_cons rfl (closedGo_cons (closed_fn gf1k) rfl)) rfl ?_
  refine GX.pure (v' := .bool (decide (0 ≤ c7))) rfl rfl rfl rfl rfl ?_
  refine GX.pure (v' := .bool (decide (0 ≤ c7))) rfl rfl rfl rfl rfl ?_
  refine GX.done ?_
  refine WK.ret ?_
  subst hR
  exact RetQ.fr [] (.inr rfl) rfl rfl rfl rfl

theorem f32_ok (l0 : List TClause) (gnumber1 : FuncId) (gnumber1f gnumber1c : List PVal) (hnumber1 : TClause → Int) (gnumber1k : PVal.closed.go gnumber1f = true ∧ PVal.closed.go gnumber1c = true) (gnumber1o : ∀ (y0 : TClause) (R : Int), hnumber1 y0 = R → FnOk Try.prog gnumber1 (gnumber1f ++ [.agg (TClause.c y0)] ++ gnumber1c) [] 0 (.int .i64 R) [] 0) (R : Bool) (hR : F32_rmap_rises l0 hnumber1 = R) : FnOk Try.prog 32 [.ro 12 (l0.map TClause.c), .fn gnumber1 gnumber1f gnumber1c] [] 0 (.bool R) [] 0 := by
  refine FnOk.wk i32 rfl rfl ?_
  unfold F32_rmap_rises at hR
  change WK _ _ _ [ac32] _ ⟨[(0, .ro 12 (l0.map TClause.c)), (1, .fn gnumber1 gnumber1f gnumber1c)], [], 0⟩
  unfold ac32
  refine WK.seq ?_
  refine WK.regx mixed ?_
  refine GX.pure (v' := .bool false) rfl rfl rfl rfl rfl ?_
  refine GX.done ?_
  refine WK.seq ?_
  refine WK.seq ?_
  refine WK.regx mixed ?_
  refine GX.pure (v' := .ro 12 (l0.map TClause.c)) rfl rfl rfl rfl rfl ?_
  refine GX.pure (v' := .int .i64 (l0.length : Int)) rfl rfl rfl rfl (len_map _ _) ?_
  refine GX.pure (v' := .int .i64 0) rfl rfl rfl rfl rfl ?_
  refine GX.done ?_
  refine WK.len (t := 0) rfl (by simp) (fun hlen_1 => ?_)
  rw [List.length_map] at hlen_1
  generalize hZ_1 : F32_rmap_rises_l1 l0 hnumber1 0 l0 = Z_1 at hR
  refine WK.forK (fun k s => ∃ (i8 : Nat), i8 ≤ l0.length ∧ k = l0.length - i8 ∧ F32_rmap_rises_l1 l0 hnumber1 i8 (l0.drop i8) = Z_1 ∧ s = ⟨[(0, .ro 12 (l0.map TClause.c)), (1, .fn gnumber1 gnumber1f gnumber1c), (7, .int .i64 (l0.length : Int)), (8, .int .i64 (i8 : Int))], [], 0⟩) l0.length ⟨⟨[(0, .ro 12 (l0.map TClause.c)), (1, .fn gnumber1 gnumber1f gnumber1c), (7, .int .i64 (l0.length : Int)), (8, .int .i64 (0 : Int))], [], 0⟩, Conv.keep [] [] [0, 1, 7, 8] rfl rfl (viewE_cons rfl rfl (viewE_cons rfl (viewP_fnc gnumber1k) (viewE_cons rfl rfl (viewE_cons rfl rfl viewE_nil)))) rfl rfl, 0, (by first | omega | ((try simp only [List.length_append, List.length_cons, List.length_nil] at *) <;> omega) | (have hlf := may03_len (by assumption) (by assumption); omega)), rfl, hZ_1, rfl⟩ ?_
  rintro _ _ ⟨i8, hi_1, rfl, hL_1, rfl⟩ again_1 out_1 Q_1 hagain_1 hout_1 hQ_1
  refine WK.seq ?_
  refine WK.regx mixed ?_
  refine GX.pure (v' := .bool (decide ((i8 : Int) < (l0.length : Int)))) rfl rfl rfl rfl rfl ?_
  refine GX.done ?_
  refine WK.seq ?_
  rcases bool_two (decide ((i8 : Int) < (l0.length : Int))) with hb2 | hb2
  · rw [hb2]
    rw [drop_end hb2, F32_rmap_rises_l1] at hL_1
    refine WK.condF rfl ?_
    refine WK.exit ?_
    refine QF.exit (hout_1 _ ?_)
    subst hL_1
    try dsimp only [cond_true, cond_false] at hR
    refine WK.seq ?_
    refine WK.regx mixed ?_
    refine GX.pure (v' := .bool true) rfl rfl rfl rfl rfl ?_
    refine GX.done ?_
    refine WK.ret ?_
    subst hR
    exact RetQ.fr [] (.inr rfl) rfl rfl rfl rfl
  · rw [hb2]
    obtain ⟨x8, hx1, hd1, hlt1⟩ := drop_more hb2
    rw [hd1, F32_rmap_rises_l1] at hL_1
    refine WK.condT rfl ?_
    refine WK.skip ?_
    refine WK.seq ?_
    refine WK.blockK (fun _ hK3 => ?_)
    refine WK.seq ?_
    refine WK.regx mixed ?_
    refine GX.pure (v' := .int .i64 (i8 : Int)) rfl rfl rfl rfl rfl ?_
    refine GX.pure (v' := .int .i64 (i8 : Int)) rfl rfl rfl rfl rfl ?_
    refine GX.done ?_
    refine WK.seq ?_
    refine WK.drawn mixed ?_
    refine RD.pure (v' := .int .i64 (i8 : Int)) rfl rfl rfl rfl rfl ?_
    refine RD.pure (v' := .bool (decide (0 < (i8 : Int)))) rfl rfl rfl rfl rfl ?_
    refine RD.pure (v' := .bool (decide (0 < (i8 : Int)))) rfl rfl rfl rfl rfl ?_
    rcases bool_two (decide (0 < (i8 : Int))) with hb4 | hb4
    · rw [hb4]; try simp only [hb4, cond_true, cond_false, Bool.true_and, Bool.false_and, Bool.true_or, Bool.false_or, Bool.not_true, Bool.not_false] at hL_1
      refine RD.skip rfl rfl ?_
      refine RD.skip rfl rfl ?_
      refine RD.skip rfl rfl ?_
      refine RD.skip rfl rfl ?_
      refine RD.skip rfl rfl ?_
      refine RD.skip rfl rfl ?_
      refine RD.skip rfl rfl ?_
      refine RD.skip rfl rfl ?_
      refine RD.skip rfl rfl ?_
      refine RD.skip rfl rfl ?_
      refine RD.skip rfl rfl ?_
      refine RD.skip rfl rfl ?_
      refine RD.skip rfl rfl ?_
      refine RD.skip rfl rfl ?_
      refine RD.pure (v' := .bool false) rfl rfl rfl rfl rfl ?_
      refine RD.done rfl ?_
      refine WK.condF rfl ?_
      refine WK.skip ?_
      refine WK.nil (QF.normal (hK3 _ ?_))
      refine WK.regx mixed ?_
      refine GX.pure (v' := .int .i64 ((i8 + 1 : Nat) : Int)) rfl rfl rfl rfl (congrArg (PVal.int .i64) (wrap_up hlt1 hlen_1)) ?_
      refine GX.pure (v' := .int .i64 ((i8 + 1 : Nat) : Int)) rfl rfl rfl rfl rfl ?_
      refine GX.done ?_
      refine WK.nil (QF.normal ?_)
      exact hagain_1 _ (l0.length - (i8 + 1)) ⟨[(0, .ro 12 (l0.map TClause.c)), (1, .fn gnumber1 gnumber1f gnumber1c), (7, .int .i64 (l0.length : Int)), (8, .int .i64 ((i8 + 1) : Int))], [], 0⟩ (by first | omega | ((try simp only [List.length_append, List.length_cons, List.length_nil] at *) <;> omega) | (have hlf := may03_len (by assumption) (by assumption); omega)) (Conv.keep [] [] [0, 1, 7, 8] rfl rfl (viewE_cons rfl rfl (viewE_cons rfl (viewP_fnc gnumber1k) (viewE_cons rfl rfl (viewE_cons rfl rfl viewE_nil)))) rfl rfl) ⟨i8 + 1, (by first | omega | ((try simp only [List.length_append, List.length_cons, List.length_nil] at *) <;> omega) | (have hlf := may03_len (by assumption) (by assumption); omega)), rfl, hL_1, rfl⟩
    · rw [hb4]; try simp only [hb4, cond_true, cond_false, Bool.true_and, Bool.false_and, Bool.true_or, Bool.false_or, Bool.not_true, Bool.not_false] at hL_1
      refine RD.pure (v' := .fn gnumber1 gnumber1f gnumber1c) rfl rfl rfl rfl rfl ?_
      refine RD.pure (v' := .ro 12 (l0.map TClause.c)) rfl rfl rfl rfl rfl ?_
      refine RD.pure (v' := .int .i64 (i8 : Int)) rfl rfl rfl rfl rfl ?_
      refine RD.idxT (c := TClause.c) (x := x8) rfl rfl rfl (Int.natCast_nonneg _) hx1 ?_
      refine RD.pure (v' := .agg (TClause.c x8)) rfl rfl rfl rfl rfl ?_
      generalize hc19 : hnumber1 x8 = c19 at hL_1
      try dsimp only at hL_1
      refine RD.callvp (r := .int .i64 c19) rfl rfl rfl (gnumber1o x8 _ hc19) (closed3 gnumber1k.1 rfl gnumber1k.2) rfl ?_
      refine RD.pure (v' := .fn gnumber1 gnumber1f gnumber1c) rfl rfl rfl rfl rfl ?_
      refine RD.pure (v' := .ro 12 (l0.map TClause.c)) rfl rfl rfl rfl rfl ?_
      refine RD.pure (v' := .int .i64 (i8 : Int)) rfl rfl rfl rfl rfl ?_
      refine RD.pure (v' := .int .i64 ((i8 - 1 : Nat) : Int)) rfl rfl rfl rfl (congrArg (PVal.int .i64) (wrap_down hb4 hlt1 hlen_1)) ?_
      refine RD.idxT (c := TClause.c) (x := (l0.getD (i8 - 1) default)) rfl rfl rfl (Int.natCast_nonneg _) (getD_at (by first | exact wrap_u64_nonneg _ | exact wrap_u32_nonneg _ | omega | exact F28_slices_IndexFunc_lt (by assumption) (by assumption) | exact F47_slices_IndexFunc_lt (by assumption) (by assumption) | ((try simp only [decide_eq_true_eq, decide_eq_false_iff_not, Bool.not_eq_true, Bool.not_eq_false] at *); first | omega | (rw [wrap64_of (by omega) (by omega)]; omega) | (unfold min_ max_; (repeat' split) <;> first | omega | (rw [wrap64_of (by omega) (by omega)]; omega))))) ?_
      refine RD.pure (v' := .agg [.int .i64 ((l0.getD (i8 - 1) default).Seq), .bool ((l0.getD (i8 - 1) default).Permit), .ro 6 (((l0.getD (i8 - 1) default).Listf).map TRule.c), .int .i64 ((l0.getD (i8 - 1) default).MKind), .int .i64 ((l0.getD (i8 - 1) default).MLow), .int .i64 ((l0.getD (i8 - 1) default).MHigh), .ro 1 (((l0.getD (i8 - 1) default).MTags).map c_u32), .int .i64 ((l0.getD (i8 - 1) default).SCost), .int .i64 ((l0.getD (i8 - 1) default).SPlus), .int .i64 ((l0.getD (i8 - 1) default).SKind), .bool ((l0.getD (i8 - 1) default).SetTag), .int .u32 ((l0.getD (i8 - 1) default).STag)]) rfl rfl rfl rfl rfl ?_
      generalize hc26 : hnumber1 (l0.getD (i8 - 1) default) = c26 at hL_1
      try dsimp only at hL_1
      refine RD.callvp (r := .int .i64 c26) rfl rfl rfl (gnumber1o (l0.getD (i8 - 1) default) _ hc26) (closed3 gnumber1k.1 rfl gnumber1k.2) rfl ?_
      refine RD.pure (v' := .bool (decide (c19 ≤ c26))) rfl rfl rfl rfl rfl ?_
      refine RD.pure (v' := .bool (decide (c19 ≤ c26))) rfl rfl rfl rfl rfl ?_
      refine RD.done rfl ?_
      rcases bool_two (decide (c19 ≤ c26)) with hb5 | hb5
      · rw [hb5]; try simp only [hb5, cond_true, cond_false, Bool.true_and, Bool.false_and, Bool.true_or, Bool.false_or, Bool.not_true, Bool.not_false] at hL_1
        refine WK.condF rfl ?_
        refine WK.skip ?_
        refine WK.nil (QF.normal (hK3 _ ?_))
        refine WK.regx mixed ?_
        refine GX.pure (v' := .int .i64 ((i8 + 1 : Nat) : Int)) rfl rfl rfl rfl (congrArg (PVal.int .i64) (wrap_up hlt1 hlen_1)) ?_
        refine GX.pure (v' := .int .i64 ((i8 + 1 : Nat) : Int)) rfl rfl rfl rfl rfl ?_
        refine GX.done ?_
        refine WK.nil (QF.normal ?_)
        exact hagain_1 _ (l0.length - (i8 + 1)) ⟨[(0, .ro 12 (l0.map TClause.c)), (1, .fn gnumber1 gnumber1f gnumber1c), (7, .int .i64 (l0.length : Int)), (8, .int .i64 ((i8 + 1) : Int))], [], 0⟩ (by first | omega | ((try simp only [List.length_append, List.length_cons, List.length_nil] at *) <;> omega) | (have hlf := may03_len (by assumption) (by assumption); omega)) (Conv.keep [] [] [0, 1, 7, 8] rfl rfl (viewE_cons rfl rfl (viewE_cons rfl (viewP_fnc gnumber1k) (viewE_cons rfl rfl (viewE_cons rfl rfl viewE_nil)))) rfl rfl) ⟨i8 + 1, (by first | omega | ((try simp only [List.length_append, List.length_cons, List.length_nil] at *) <;> omega) | (have hlf := may03_len (by assumption) (by assumption); omega)), rfl, hL_1, rfl⟩
      · rw [hb5]; try simp only [hb5, cond_true, cond_false, Bool.true_and, Bool.false_and, Bool.true_or, Bool.false_or, Bool.not_true, Bool.not_false] at hL_1
        refine WK.condT rfl ?_
        refine WK.seq ?_
        refine WK.regx mixed ?_
        refine GX.pure (v' := .bool false) rfl rfl rfl rfl rfl ?_
        refine GX.done ?_
        refine WK.ret ?_
        refine QF.ret ?_
        refine QF.ret (hQ_1 _ _ ?_)
        subst hL_1
        subst hR
        exact RetQ.fr [] (.inr rfl) rfl rfl rfl rfl

theorem f33_ok (x0 : TClause) (R : Int) (hR : F33_rmap_MayAll_2 x0 = R) : FnOk Try.prog 33 [.agg (TClause.c x0)] [] 0 (.int .i64 R) [] 0 := by
  refine FnOk.wk i33 rfl rfl ?_
  unfold F33_rmap_MayAll_2 at hR
  change WK _ _ _ [ac33] _ ⟨[(0, .agg (TClause.c x0))], [], 0⟩
  unfold ac33
  refine WK.seq ?_
  refine WK.regx mixed ?_
  refine GX.step (v' := .ptr 0 0) (heap' := [(0, .box (TClause.c x0))]) (next' := 1) rfl rfl rfl rfl rfl rfl rfl ?_
  refine GX.pure (v' := .int .i64 0) rfl rfl rfl rfl rfl ?_
  refine GX.done ?_
  refine WK.seq ?_
  refine WK.regx mixed ?_
  refine GX.pure (v' := .ptr 0 0) rfl rfl rfl rfl rfl ?_
  refine GX.pure (v' := .int .i64 x0.Seq) rfl rfl rfl rfl rfl ?_
  refine GX.pure (v' := .int .i64 x0.Seq) rfl rfl rfl rfl rfl ?_
  refine GX.done ?_
  refine WK.ret ?_
  subst hR
  exact RetQ.fr [] (.inr rfl) rfl rfl rfl rfl

theorem f14_ok (m0 : List TClause) (R : Bool) (hR : F14_rmap_MayAll m0 = R) : FnOk Try.prog 14 [.ro 12 (m0.map TClause.c)] [] 0 (.bool R) [] 0 := by
  refine FnOk.wk i14 rfl rfl ?_
  unfold F14_rmap_MayAll at hR
  change WK _ _ _ [ac14] _ ⟨[(0, .ro 12 (m0.map TClause.c))], [], 0⟩
  unfold ac14
  refine WK.seq ?_
  refine WK.regx mixed ?_
  refine GX.pure (v' := .bool false) rfl rfl rfl rfl rfl ?_
  refine GX.done ?_
  refine WK.seq ?_
  refine WK.regx mixed ?_
  refine GX.pure (v' := .fn 30 [] []) rfl rfl rfl rfl rfl ?_
  refine GX.done ?_
  refine WK.seq ?_
  refine WK.regx mixed ?_
  refine GX.pure (v' := .ro 12 (m0.map TClause.c)) rfl rfl rfl rfl rfl ?_
  refine GX.pure (v' := .fn 30 [] []) rfl rfl rfl rfl rfl ?_
  generalize hc6 : F31_slices_ContainsFunc m0 (fun y0 => F30_rmap_MayAll_1 y0) = c6 at hR
  try dsimp only at hR
  refine GX.callp (r := .bool c6) rfl rfl rfl (f31_ok m0 30 [] [] (fun y0 => F30_rmap_MayAll_1 y0) ⟨rfl, rfl⟩ (fun y0 _ hr => f30_ok y0 _ hr) _ hc6) rfl rfl ?_
  refine GX.pure (v' := .bool (!c6)) rfl rfl rfl rfl rfl ?_
  refine GX.pure (v' := .bool (!c6)) rfl rfl rfl rfl rfl ?_
  rcases bool_two (c6) with hb1 | hb1
  · rw [hb1]; try simp only [hb1, cond_true, cond_false, Bool.true_and, Bool.false_and, Bool.true_or, Bool.false_or, Bool.not_true, Bool.not_false] at hR
    refine GX.pure (v' := .ro 12 (m0.map TClause.c)) rfl rfl rfl rfl rfl ?_
    generalize hc10 : F32_rmap_rises m0 (fun y0 => F33_rmap_MayAll_2 y0) = c10 at hR
    try dsimp only at hR
    refine GX.callp (r := .bool c10) rfl rfl rfl (f32_ok m0 33 [] [] (fun y0 => F33_rmap_MayAll_2 y0) ⟨rfl, rfl⟩ (fun y0 _ hr => f33_ok y0 _ hr) _ hc10) rfl rfl ?_
    refine GX.pure (v' := .bool c10) rfl rfl rfl rfl rfl ?_
    refine GX.pure (v' := .bool c10) rfl rfl rfl rfl rfl ?_
    refine GX.done ?_
    refine WK.ret ?_
    subst hR
    exact RetQ.fr [] (.inr rfl) rfl rfl rfl rfl
  · rw [hb1]; try simp only [hb1, cond_true, cond_false, Bool.true_and, Bool.false_and, Bool.true_or, Bool.false_or, Bool.not_true, Bool.not_false] at hR
    refine GX.skip rfl rfl ?_
    refine GX.skip rfl rfl ?_
    refine GX.pure (v' := .bool false) rfl rfl rfl rfl rfl ?_
    refine GX.pure (v' := .bool false) rfl rfl rfl rfl rfl ?_
    refine GX.done ?_
    refine WK.ret ?_
    subst hR
    exact RetQ.fr [] (.inr rfl) rfl rfl rfl rfl

end Go.Proofs.Ytagiapphmkdnmaa.Abs
