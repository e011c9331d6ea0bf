/- The functions walked: each computes its Lean function (printed by this work's own program gen.py). -/
import Derived.Test.YtagiapphmkdnmaaW10
set_option linter.unusedVariables false
set_option linter.unusedSimpArgs false
set_option maxRecDepth 10000
set_option maxHeartbeats 4000000
namespace Go.Proofs.Ytagiapphmkdnmaa.Abs
open Go

theorem f6_ok (m0 : List TClause) (l1 : List TRoute) (R : Bool) (hR : F6_crossroadslaw08_RmapFilter m0 l1 = R) : FnOk Try.prog 6 [.ro 12 (m0.map TClause.c), .ro 5 (l1.map TRoute.c)] [] 0 (.bool R) [] 0 := by
  refine FnOk.wk i6 rfl rfl ?_
  unfold F6_crossroadslaw08_RmapFilter at hR
  change WK _ _ _ [ac6] _ ⟨[(0, .ro 12 (m0.map TClause.c)), (1, .ro 5 (l1.map TRoute.c))], [], 0⟩
  unfold ac6
  refine WK.seq ?_
  refine WK.regx mixed ?_
  refine GX.pure (v' := .bool false) rfl rfl rfl rfl rfl ?_
  refine GX.done ?_
  refine WK.seq ?_
  refine WK.seq ?_
  refine WK.regx mixed ?_
  refine GX.pure (v' := .ro 12 (m0.map TClause.c)) rfl rfl rfl rfl rfl ?_
  generalize hc12 : F7_crossroadslaw08_small m0 = c12 at hR
  try dsimp only at hR
  refine GX.callp (r := .bool c12) rfl rfl rfl (f7_ok m0 _ hc12) rfl rfl ?_
  refine GX.pure (v' := .bool (!c12)) rfl rfl rfl rfl rfl ?_
  refine GX.pure (v' := .bool (!c12)) rfl rfl rfl rfl rfl ?_
  rcases bool_two (c12) with hb1 | hb1
  · rw [hb1]; try simp only [hb1, cond_true, cond_false, Bool.true_and, Bool.false_and, Bool.true_or, Bool.false_or, Bool.not_true, Bool.not_false] at hR
    refine GX.skip rfl rfl ?_
    refine GX.skip rfl rfl ?_
    refine GX.skip rfl rfl ?_
    refine GX.pure (v' := .bool true) rfl rfl rfl rfl rfl ?_
    refine GX.pure (v' := .bool true) rfl rfl rfl rfl rfl ?_
    refine GX.skip rfl rfl ?_
    refine GX.skip rfl rfl ?_
    refine GX.skip rfl rfl ?_
    refine GX.skip rfl rfl ?_
    refine GX.pure (v' := .bool true) rfl rfl rfl rfl rfl ?_
    refine GX.done ?_
    refine WK.condT rfl ?_
    refine WK.seq ?_
    refine WK.regx mixed ?_
    generalize hc25 : F12_crossroadslaw08_alive = c25 at hR
    try dsimp only at hR
    refine GX.callp (r := .bool c25) rfl rfl rfl (f12_ok  _ hc25) rfl rfl ?_
    refine GX.pure (v' := .bool c25) rfl rfl rfl rfl rfl ?_
    refine GX.done ?_
    refine WK.ret ?_
    subst hR
    exact RetQ.fr [] (.inr rfl) rfl rfl rfl rfl
  · rw [hb1]; try simp only [hb1, cond_true, cond_false, Bool.true_and, Bool.false_and, Bool.true_or, Bool.false_or, Bool.not_true, Bool.not_false] at hR
    refine GX.pure (v' := .ro 5 (l1.map TRoute.c)) rfl rfl rfl rfl rfl ?_
    refine GX.pure (v' := .int .i64 (l1.length : Int)) rfl rfl rfl rfl (len_map _ _) ?_
    refine GX.pure (v' := .bool (decide (30 < (l1.length : Int)))) rfl rfl rfl rfl rfl ?_
    refine GX.pure (v' := .bool (decide (30 < (l1.length : Int)))) rfl rfl rfl rfl rfl ?_
    refine GX.pure (v' := .bool (decide (30 < (l1.length : Int)))) rfl rfl rfl rfl rfl ?_
    rcases bool_two (decide (30 < (l1.length : Int))) with hb2 | hb2
    · rw [hb2]; try simp only [hb2, cond_true, cond_false, Bool.true_and, Bool.false_and, Bool.true_or, Bool.false_or, Bool.not_true, Bool.not_false] at hR
      refine GX.pure (v' := .ro 12 (m0.map TClause.c)) rfl rfl rfl rfl rfl ?_
      generalize hc21 : F9_crossroadslaw08_rows m0 = c21 at hR
      try dsimp only at hR
      refine GX.callp (r := .ro 12 (c21.map TClause.c)) rfl rfl rfl (f9_ok m0 (by first | omega | assumption | ((try simp only [List.length_append, List.length_cons, List.length_nil, List.length_map, decide_eq_true_eq, decide_eq_false_iff_not] at *) <;> omega) | exact hp0 _ (List.mem_of_getElem? (by assumption)) | exact hp1 _ (List.mem_of_getElem? (by assumption)) | exact hp2 _ (List.mem_of_getElem? (by assumption)) | exact hp3 _ (List.mem_of_getElem? (by assumption)) | exact hp4 _ (List.mem_of_getElem? (by assumption)) | exact hp5 _ (List.mem_of_getElem? (by assumption)) | exact small_len (by assumption) (by assumption) | exact small_rules (by assumption) (by assumption) | exact small_rules (by assumption) (by assumption) _ (List.mem_of_getElem? (by assumption)) | (have hszf := small_len (by assumption) (by assumption); (try simp only [List.length_append, List.length_cons, List.length_nil, List.length_map] at *) <;> omega)) (by first | omega | assumption | ((try simp only [List.length_append, List.length_cons, List.length_nil, List.length_map, decide_eq_true_eq, decide_eq_false_iff_not] at *) <;> omega) | exact hp0 _ (List.mem_of_getElem? (by assumption)) | exact hp1 _ (List.mem_of_getElem? (by assumption)) | exact hp2 _ (List.mem_of_getElem? (by assumption)) | exact hp3 _ (List.mem_of_getElem? (by assumption)) | exact hp4 _ (List.mem_of_getElem? (by assumption)) | exact hp5 _ (List.mem_of_getElem? (by assumption)) | exact small_len (by assumption) (by assumption) | exact small_rules (by assumption) (by assumption) | exact small_rules (by assumption) (by assumption) _ (List.mem_of_getElem? (by assumption)) | (have hszf := small_len (by assumption) (by assumption); (try simp only [List.length_append, List.length_cons, List.length_nil, List.length_map] at *) <;> omega)) _ hc21) rfl rfl ?_
      generalize hc22 : F8_crossroadsref08_MayAll c21 = c22 at hR
      try dsimp only at hR
      refine GX.callp (r := .bool c22) rfl rfl rfl (f8_ok c21 _ hc22) rfl rfl ?_
      refine GX.pure (v' := .bool (!c22)) rfl rfl rfl rfl rfl ?_
      refine GX.pure (v' := .bool (!c22)) rfl rfl rfl rfl rfl ?_
      refine GX.done ?_
      rcases bool_two (c22) with hb3 | hb3
      · rw [hb3]; try simp only [hb3, cond_true, cond_false, Bool.true_and, Bool.false_and, Bool.true_or, Bool.false_or, Bool.not_true, Bool.not_false] at hR
        refine WK.condT rfl ?_
        refine WK.seq ?_
        refine WK.regx mixed ?_
        generalize hc25 : F12_crossroadslaw08_alive = c25 at hR
        try dsimp only at hR
        refine GX.callp (r := .bool c25) rfl rfl rfl (f12_ok  _ hc25) rfl rfl ?_
        refine GX.pure (v' := .bool c25) rfl rfl rfl rfl rfl ?_
        refine GX.done ?_
        refine WK.ret ?_
        subst hR
        exact RetQ.fr [] (.inr rfl) rfl rfl rfl rfl
      · rw [hb3]; try simp only [hb3, cond_true, cond_false, Bool.true_and, Bool.false_and, Bool.true_or, Bool.false_or, Bool.not_true, Bool.not_false] at hR
        refine WK.condF rfl ?_
        refine WK.skip ?_
        refine WK.seq ?_
        refine WK.regx mixed ?_
        refine GX.step (v' := .own 0 5 0 (([] : List TRoute)).length) (heap' := [(0, .row 5 33 (([] : List TRoute).map TRoute.c))]) (next' := 1) rfl rfl rfl rfl rfl rfl rfl ?_
        refine GX.pure (v' := .own 0 5 0 (([] : List TRoute)).length) rfl rfl rfl rfl rfl ?_
        refine GX.done ?_
        refine WK.seq ?_
        refine WK.seq ?_
        refine WK.regx mixed ?_
        refine GX.pure (v' := .int .i64 0) rfl rfl rfl rfl rfl ?_
        refine GX.done ?_
        refine WK.len (t := 1) rfl (by simp) (fun hlen_17 => ?_)
        rw [List.length_map] at hlen_17
        generalize hZ_17 : F6_crossroadslaw08_RmapFilter_l4 ([] : List TRoute) l1 = Z_17 at hR
        refine WK.forK (fun k s => ∃ (i6 : Nat) (in5 : List TRoute), i6 ≤ l1.length ∧ k = l1.length - i6 ∧ in5.length ≤ i6 + 0 ∧ in5.length = i6 ∧ F6_crossroadslaw08_RmapFilter_l4 in5 (l1.drop i6) = Z_17 ∧ s = ⟨[(0, .ro 12 (m0.map TClause.c)), (1, .ro 5 (l1.map TRoute.c)), (5, .own 0 5 0 in5.length), (6, .int .i64 (i6 : Int))], [(0, .row 5 33 (in5.map TRoute.c))], 1⟩) l1.length ⟨⟨[(0, .ro 12 (m0.map TClause.c)), (1, .ro 5 (l1.map TRoute.c)), (5, .own 0 5 0 ([] : List TRoute).length), (6, .int .i64 (0 : Int))], [(0, .row 5 33 (([] : List TRoute).map TRoute.c))], 1⟩, Conv.keep [0] [] [0, 1, 5, 6] rfl rfl (viewE_cons rfl rfl (viewE_cons rfl rfl (viewE_cons rfl rfl (viewE_cons rfl rfl viewE_nil)))) rfl rfl, 0, ([] : List TRoute), (by first | omega | ((try simp only [List.length_append, List.length_cons, List.length_nil] at *) <;> omega) | (have hlf := may03_len (by assumption) (by assumption); omega)), rfl, (by first | omega | ((try simp only [List.length_append, List.length_cons, List.length_nil] at *) <;> omega) | (have hlf := may03_len (by assumption) (by assumption); omega)), (by first | omega | ((try simp only [List.length_append, List.length_cons, List.length_nil] at *) <;> omega) | (have hlf := may03_len (by assumption) (by assumption); omega)), hZ_17, rfl⟩ ?_
        rintro _ _ ⟨i6, in5, hi_17, rfl, hinv17_in5, hinv17_c1, hL_17, rfl⟩ again_17 out_17 Q_17 hagain_17 hout_17 hQ_17
        refine WK.seq ?_
        refine WK.seq ?_
        refine WK.regx mixed ?_
        refine GX.pure (v' := .int .i64 (i6 : Int)) rfl rfl rfl rfl rfl ?_
        refine GX.pure (v' := .ro 5 (l1.map TRoute.c)) rfl rfl rfl rfl rfl ?_
        refine GX.pure (v' := .int .i64 (l1.length : Int)) rfl rfl rfl rfl (len_map _ _) ?_
        refine GX.pure (v' := .bool (decide ((i6 : Int) < (l1.length : Int)))) rfl rfl rfl rfl rfl ?_
        refine GX.done ?_
        rcases bool_two (decide ((i6 : Int) < (l1.length : Int))) with hb18 | hb18
        · rw [hb18]
          rw [drop_end hb18, F6_crossroadslaw08_RmapFilter_l4] at hL_17
          refine WK.condF rfl ?_
          refine WK.exit ?_
          refine QF.exit (hout_17 _ ?_)
          subst hL_17
          try dsimp only [cond_true, cond_false] at hR
          refine WK.seq ?_
          refine WK.conv (st' := ⟨[(0, .ro 12 (m0.map TClause.c)), (1, .ro 5 (l1.map TRoute.c)), (5, .ro 5 (in5.map TRoute.c))], [], 0⟩) (Conv.keep [] [0] [0, 1, 5] rfl rfl (viewE_cons rfl rfl (viewE_cons rfl rfl (viewE_cons rfl (view_rowT rfl rfl) viewE_nil))) rfl rfl) ?_ (by simp)
          refine WK.regx mixed ?_
          refine GX.pure (v' := .ro 12 (m0.map TClause.c)) rfl rfl rfl rfl rfl ?_
          refine GX.pure (v' := .ro 5 (l1.map TRoute.c)) rfl rfl rfl rfl rfl ?_
          generalize hc51 : F25_rmap_Filter m0 l1 = c51 at hR
          try dsimp only at hR
          refine GX.callp (r := .ro 5 (c51.map TRoute.c)) rfl rfl rfl (f25_ok m0 l1 (by first | omega | assumption | ((try simp only [List.length_append, List.length_cons, List.length_nil, List.length_map, decide_eq_true_eq, decide_eq_false_iff_not] at *) <;> omega) | exact hp0 _ (List.mem_of_getElem? (by assumption)) | exact hp1 _ (List.mem_of_getElem? (by assumption)) | exact hp2 _ (List.mem_of_getElem? (by assumption)) | exact hp3 _ (List.mem_of_getElem? (by assumption)) | exact hp4 _ (List.mem_of_getElem? (by assumption)) | exact hp5 _ (List.mem_of_getElem? (by assumption)) | exact small_len (by assumption) (by assumption) | exact small_rules (by assumption) (by assumption) | exact small_rules (by assumption) (by assumption) _ (List.mem_of_getElem? (by assumption)) | (have hszf := small_len (by assumption) (by assumption); (try simp only [List.length_append, List.length_cons, List.length_nil, List.length_map] at *) <;> omega)) _ hc51) rfl rfl ?_
          refine GX.pure (v' := .ro 12 (m0.map TClause.c)) rfl rfl rfl rfl rfl ?_
          refine GX.callp (r := .ro 12 (c21.map TClause.c)) rfl rfl rfl (f9_ok m0 (by first | omega | assumption | ((try simp only [List.length_append, List.length_cons, List.length_nil, List.length_map, decide_eq_true_eq, decide_eq_false_iff_not] at *) <;> omega) | exact hp0 _ (List.mem_of_getElem? (by assumption)) | exact hp1 _ (List.mem_of_getElem? (by assumption)) | exact hp2 _ (List.mem_of_getElem? (by assumption)) | exact hp3 _ (List.mem_of_getElem? (by assumption)) | exact hp4 _ (List.mem_of_getElem? (by assumption)) | exact hp5 _ (List.mem_of_getElem? (by assumption)) | exact small_len (by assumption) (by assumption) | exact small_rules (by assumption) (by assumption) | exact small_rules (by assumption) (by assumption) _ (List.mem_of_getElem? (by assumption)) | (have hszf := small_len (by assumption) (by assumption); (try simp only [List.length_append, List.length_cons, List.length_nil, List.length_map] at *) <;> omega)) (by first | omega | assumption | ((try simp only [List.length_append, List.length_cons, List.length_nil, List.length_map, decide_eq_true_eq, decide_eq_false_iff_not] at *) <;> omega) | exact hp0 _ (List.mem_of_getElem? (by assumption)) | exact hp1 _ (List.mem_of_getElem? (by assumption)) | exact hp2 _ (List.mem_of_getElem? (by assumption)) | exact hp3 _ (List.mem_of_getElem? (by assumption)) | exact hp4 _ (List.mem_of_getElem? (by assumption)) | exact hp5 _ (List.mem_of_getElem? (by assumption)) | exact small_len (by assumption) (by assumption) | exact small_rules (by assumption) (by assumption) | exact small_rules (by assumption) (by assumption) _ (List.mem_of_getElem? (by assumption)) | (have hszf := small_len (by assumption) (by assumption); (try simp only [List.length_append, List.length_cons, List.length_nil, List.length_map] at *) <;> omega)) _ hc21) rfl rfl ?_
          refine GX.pure (v' := .ro 5 (in5.map TRoute.c)) rfl rfl rfl rfl rfl ?_
          generalize hc55 : F26_crossroadsref08_Filter c21 in5 = c55 at hR
          try dsimp only at hR
          refine GX.callp (r := .ro 5 (c55.map TRoute.c)) rfl rfl rfl (f26_ok c21 in5 (by first | omega | assumption | ((try simp only [List.length_append, List.length_cons, List.length_nil, List.length_map, decide_eq_true_eq, decide_eq_false_iff_not] at *) <;> omega) | exact hp0 _ (List.mem_of_getElem? (by assumption)) | exact hp1 _ (List.mem_of_getElem? (by assumption)) | exact hp2 _ (List.mem_of_getElem? (by assumption)) | exact hp3 _ (List.mem_of_getElem? (by assumption)) | exact hp4 _ (List.mem_of_getElem? (by assumption)) | exact hp5 _ (List.mem_of_getElem? (by assumption)) | exact small_len (by assumption) (by assumption) | exact small_rules (by assumption) (by assumption) | exact small_rules (by assumption) (by assumption) _ (List.mem_of_getElem? (by assumption)) | (have hszf := small_len (by assumption) (by assumption); (try simp only [List.length_append, List.length_cons, List.length_nil, List.length_map] at *) <;> omega)) _ hc55) rfl rfl ?_
          refine GX.pure (v' := .ro 5 (c51.map TRoute.c)) rfl rfl rfl rfl rfl ?_
          refine GX.pure (v' := .ro 5 (c55.map TRoute.c)) rfl rfl rfl rfl rfl ?_
          refine GX.done ?_
          refine WK.seq ?_
          refine WK.seq ?_
          refine WK.regx mixed ?_
          refine GX.pure (v' := .ro 5 (c51.map TRoute.c)) rfl rfl rfl rfl rfl ?_
          refine GX.pure (v' := .int .i64 (c51.length : Int)) rfl rfl rfl rfl (len_map _ _) ?_
          refine GX.pure (v' := .ro 5 (c55.map TRoute.c)) rfl rfl rfl rfl rfl ?_
          refine GX.pure (v' := .int .i64 (c55.length : Int)) rfl rfl rfl rfl (len_map _ _) ?_
          refine GX.pure (v' := .bool (!decide ((c51.length : Int) = (c55.length : Int)))) rfl rfl rfl rfl rfl ?_
          refine GX.done ?_
          rcases bool_two (decide ((c51.length : Int) = (c55.length : Int))) with hb19 | hb19
          · rw [hb19]; try simp only [hb19, cond_true, cond_false, Bool.true_and, Bool.false_and, Bool.true_or, Bool.false_or, Bool.not_true, Bool.not_false] at hR
            refine WK.condT rfl ?_
            refine WK.seq ?_
            refine WK.regx mixed ?_
            refine GX.pure (v' := .bool false) rfl rfl rfl rfl rfl ?_
            refine GX.done ?_
            refine WK.ret ?_
            subst hR
            exact RetQ.fr [] (.inr rfl) rfl rfl rfl rfl
          · rw [hb19]; try simp only [hb19, cond_true, cond_false, Bool.true_and, Bool.false_and, Bool.true_or, Bool.false_or, Bool.not_true, Bool.not_false] at hR
            refine WK.condF rfl ?_
            refine WK.skip ?_
            refine WK.seq ?_
            refine WK.seq ?_
            refine WK.regx mixed ?_
            refine GX.pure (v' := .int .i64 0) rfl rfl rfl rfl rfl ?_
            refine GX.done ?_
            refine WK.len (t := 51) rfl (by simp) (fun hlen_20 => ?_)
            rw [List.length_map] at hlen_20
            generalize hZ_20 : F6_crossroadslaw08_RmapFilter_l2 c55 0 c51 = Z_20 at hR
            refine WK.forK (fun k s => ∃ (i9 : Nat), i9 ≤ c51.length ∧ k = c51.length - i9 ∧ F6_crossroadslaw08_RmapFilter_l2 c55 i9 (c51.drop i9) = Z_20 ∧ s = ⟨[(1, .ro 5 (l1.map TRoute.c)), (5, .ro 5 (in5.map TRoute.c)), (7, .ro 5 (c51.map TRoute.c)), (8, .ro 5 (c55.map TRoute.c)), (9, .int .i64 (i9 : Int))], [], 0⟩) c51.length ⟨⟨[(1, .ro 5 (l1.map TRoute.c)), (5, .ro 5 (in5.map TRoute.c)), (7, .ro 5 (c51.map TRoute.c)), (8, .ro 5 (c55.map TRoute.c)), (9, .int .i64 (0 : Int))], [], 0⟩, Conv.keep [] [] [1, 5, 7, 8, 9] rfl rfl (viewE_cons rfl rfl (viewE_cons rfl rfl (viewE_cons rfl rfl (viewE_cons rfl rfl (viewE_cons rfl rfl viewE_nil))))) rfl rfl, 0, (by first | omega | ((try simp only [List.length_append, List.length_cons, List.length_nil] at *) <;> omega) | (have hlf := may03_len (by assumption) (by assumption); omega)), rfl, hZ_20, rfl⟩ ?_
            rintro _ _ ⟨i9, hi_20, rfl, hL_20, rfl⟩ again_20 out_20 Q_20 hagain_20 hout_20 hQ_20
            refine WK.seq ?_
            refine WK.seq ?_
            refine WK.regx mixed ?_
            refine GX.pure (v' := .int .i64 (i9 : Int)) rfl rfl rfl rfl rfl ?_
            refine GX.pure (v' := .ro 5 (c51.map TRoute.c)) rfl rfl rfl rfl rfl ?_
            refine GX.pure (v' := .int .i64 (c51.length : Int)) rfl rfl rfl rfl (len_map _ _) ?_
            refine GX.pure (v' := .bool (decide ((i9 : Int) < (c51.length : Int)))) rfl rfl rfl rfl rfl ?_
            refine GX.done ?_
            rcases bool_two (decide ((i9 : Int) < (c51.length : Int))) with hb21 | hb21
            · rw [hb21]
              rw [drop_end hb21, F6_crossroadslaw08_RmapFilter_l2] at hL_20
              refine WK.condF rfl ?_
              refine WK.exit ?_
              refine QF.exit (hout_20 _ ?_)
              subst hL_20
              try dsimp only [cond_true, cond_false] at hR
              refine WK.seq ?_
              refine WK.seq ?_
              refine WK.regx mixed ?_
              refine GX.pure (v' := .int .i64 0) rfl rfl rfl rfl rfl ?_
              refine GX.done ?_
              refine WK.len (t := 1) rfl (by simp) (fun hlen_22 => ?_)
              rw [List.length_map] at hlen_22
              generalize hZ_22 : F6_crossroadslaw08_RmapFilter_l3 in5 0 l1 = Z_22 at hR
              refine WK.forK (fun k s => ∃ (i10 : Nat), i10 ≤ l1.length ∧ k = l1.length - i10 ∧ F6_crossroadslaw08_RmapFilter_l3 in5 i10 (l1.drop i10) = Z_22 ∧ s = ⟨[(1, .ro 5 (l1.map TRoute.c)), (5, .ro 5 (in5.map TRoute.c)), (10, .int .i64 (i10 : Int))], [], 0⟩) l1.length ⟨⟨[(1, .ro 5 (l1.map TRoute.c)), (5, .ro 5 (in5.map TRoute.c)), (10, .int .i64 (0 : Int))], [], 0⟩, Conv.keep [] [] [1, 5, 10] rfl rfl (viewE_cons rfl rfl (viewE_cons rfl rfl (viewE_cons rfl rfl viewE_nil))) rfl rfl, 0, (by first | omega | ((try simp only [List.length_append, List.length_cons, List.length_nil] at *) <;> omega) | (have hlf := may03_len (by assumption) (by assumption); omega)), rfl, hZ_22, rfl⟩ ?_
              rintro _ _ ⟨i10, hi_22, rfl, hL_22, rfl⟩ again_22 out_22 Q_22 hagain_22 hout_22 hQ_22
              refine WK.seq ?_
              refine WK.seq ?_
              refine WK.regx mixed ?_
              refine GX.pure (v' := .int .i64 (i10 : Int)) rfl rfl rfl rfl rfl ?_
              refine GX.pure (v' := .ro 5 (l1.map TRoute.c)) rfl rfl rfl rfl rfl ?_
              refine GX.pure (v' := .int .i64 (l1.length : Int)) rfl rfl rfl rfl (len_map _ _) ?_
              refine GX.pure (v' := .bool (decide ((i10 : Int) < (l1.length : Int)))) rfl rfl rfl rfl rfl ?_
              refine GX.done ?_
              rcases bool_two (decide ((i10 : Int) < (l1.length : Int))) with hb23 | hb23
              · rw [hb23]
                rw [drop_end hb23, F6_crossroadslaw08_RmapFilter_l3] at hL_22
                refine WK.condF rfl ?_
                refine WK.exit ?_
                refine QF.exit (hout_22 _ ?_)
                subst hL_22
                try dsimp only [cond_true, cond_false] at hR
                refine WK.seq ?_
                refine WK.regx mixed ?_
                generalize hc93 : F12_crossroadslaw08_alive = c93 at hR
                try dsimp only at hR
                refine GX.callp (r := .bool c93) rfl rfl rfl (f12_ok  _ hc93) rfl rfl ?_
                refine GX.pure (v' := .bool c93) rfl rfl rfl rfl rfl ?_
                refine GX.done ?_
                refine WK.ret ?_
                subst hR
                exact RetQ.fr [] (.inr rfl) rfl rfl rfl rfl
              · rw [hb23]
                obtain ⟨x10, hx22, hd22, hlt22⟩ := drop_more hb23
                rw [hd22, F6_crossroadslaw08_RmapFilter_l3] at hL_22
                refine WK.condT rfl ?_
                refine WK.skip ?_
                refine WK.seq ?_
                refine WK.blockK (fun _ hK24 => ?_)
                refine WK.seq ?_
                refine WK.drawn mixed ?_
                refine RD.pure (v' := .ro 5 (l1.map TRoute.c)) rfl rfl rfl rfl rfl ?_
                refine RD.pure (v' := .int .i64 (i10 : Int)) rfl rfl rfl rfl rfl ?_
                refine RD.idxT (c := TRoute.c) (x := x10) rfl rfl rfl (Int.natCast_nonneg _) hx22 ?_
                refine RD.pure (v' := .agg (TRoute.c x10)) rfl rfl rfl rfl rfl ?_
                generalize hc87 : F11_crossroadslaw08_route x10 = c87 at hL_22
                try dsimp only at hL_22
                refine RD.callp (r := .agg [.int .u32 c87.P.A, .int .i64 c87.P.N, .int .i64 c87.Kind, .int .i64 c87.Cost, .int .u32 c87.Tag]) rfl rfl rfl (f11_ok x10 _ hc87) rfl rfl ?_
                refine RD.pure (v' := .ro 5 (in5.map TRoute.c)) rfl rfl rfl rfl rfl ?_
                refine RD.pure (v' := .int .i64 (i10 : Int)) rfl rfl rfl rfl rfl ?_
                refine RD.idxT (c := TRoute.c) (x := (in5.getD i10 default)) rfl rfl rfl (Int.natCast_nonneg _) (getD_at (by first | exact wrap_u64_nonneg _ | exact wrap_u32_nonneg _ | omega | exact F28_slices_IndexFunc_lt (by assumption) (by assumption) | exact F47_slices_IndexFunc_lt (by assumption) (by assumption) | ((try simp only [decide_eq_true_eq, decide_eq_false_iff_not, Bool.not_eq_true, Bool.not_eq_false] at *); first | omega | (rw [wrap64_of (by omega) (by omega)]; omega) | (unfold min_ max_; (repeat' split) <;> first | omega | (rw [wrap64_of (by omega) (by omega)]; omega))))) ?_
                refine RD.pure (v' := .agg [.int .u32 (((in5.getD i10 default).P).A), .int .i64 (((in5.getD i10 default).P).N), .int .i64 ((in5.getD i10 default).Kind), .int .i64 ((in5.getD i10 default).Cost), .int .u32 ((in5.getD i10 default).Tag)]) rfl rfl rfl rfl rfl ?_
                refine RD.pure (v' := .bool (!(decide (c87.P.A = ((in5.getD i10 default).P).A) && (decide (c87.P.N = ((in5.getD i10 default).P).N) && (decide (c87.Kind = (in5.getD i10 default).Kind) && (decide (c87.Cost = (in5.getD i10 default).Cost) && (decide (c87.Tag = (in5.getD i10 default).Tag) && true))))))) rfl rfl rfl rfl rfl ?_
                refine RD.done rfl ?_
                rcases bool_two (decide (c87.P.A = ((in5.getD i10 default).P).A) && (decide (c87.P.N = ((in5.getD i10 default).P).N) && (decide (c87.Kind = (in5.getD i10 default).Kind) && (decide (c87.Cost = (in5.getD i10 default).Cost) && (decide (c87.Tag = (in5.getD i10 default).Tag) && true))))) with hb25 | hb25
                · rw [hb25]; try simp only [hb25, cond_true, cond_false, Bool.true_and, Bool.false_and, Bool.true_or, Bool.false_or, Bool.not_true, Bool.not_false] at hL_22
                  refine WK.condT rfl ?_
                  refine WK.seq ?_
                  refine WK.regx mixed ?_
                  refine GX.pure (v' := .bool false) rfl rfl rfl rfl rfl ?_
                  refine GX.done ?_
                  refine WK.ret ?_
                  refine QF.ret ?_
                  refine QF.ret (hQ_22 _ _ ?_)
                  subst hL_22
                  subst hR
                  exact RetQ.fr [] (.inr rfl) rfl rfl rfl rfl
                · rw [hb25]; try simp only [hb25, cond_true, cond_false, Bool.true_and, Bool.false_and, Bool.true_or, Bool.false_or, Bool.not_true, Bool.not_false] at hL_22
                  refine WK.condF rfl ?_
                  refine WK.skip ?_
                  refine WK.nil (QF.normal (hK24 _ ?_))
                  refine WK.regx mixed ?_
                  refine GX.pure (v' := .int .i64 (i10 : Int)) rfl rfl rfl rfl rfl ?_
                  refine GX.pure (v' := .int .i64 ((i10 + 1 : Nat) : Int)) rfl rfl rfl rfl (congrArg (PVal.int .i64) (wrap_up hlt22 hlen_22)) ?_
                  refine GX.pure (v' := .int .i64 ((i10 + 1 : Nat) : Int)) rfl rfl rfl rfl rfl ?_
                  refine GX.done ?_
                  refine WK.nil (QF.normal ?_)
                  exact hagain_22 _ (l1.length - (i10 + 1)) ⟨[(1, .ro 5 (l1.map TRoute.c)), (5, .ro 5 (in5.map TRoute.c)), (10, .int .i64 ((i10 + 1) : Int))], [], 0⟩ (by first | omega | ((try simp only [List.length_append, List.length_cons, List.length_nil] at *) <;> omega) | (have hlf := may03_len (by assumption) (by assumption); omega)) (Conv.keep [] [] [1, 5, 10] rfl rfl (viewE_cons rfl rfl (viewE_cons rfl rfl (viewE_cons rfl rfl viewE_nil))) rfl rfl) ⟨i10 + 1, (by first | omega | ((try simp only [List.length_append, List.length_cons, List.length_nil] at *) <;> omega) | (have hlf := may03_len (by assumption) (by assumption); omega)), rfl, hL_22, rfl⟩
            · rw [hb21]
              obtain ⟨x9, hx20, hd20, hlt20⟩ := drop_more hb21
              rw [hd20, F6_crossroadslaw08_RmapFilter_l2] at hL_20
              refine WK.condT rfl ?_
              refine WK.skip ?_
              refine WK.seq ?_
              refine WK.blockK (fun _ hK26 => ?_)
              refine WK.seq ?_
              refine WK.drawn mixed ?_
              refine RD.pure (v' := .ro 5 (c51.map TRoute.c)) rfl rfl rfl rfl rfl ?_
              refine RD.pure (v' := .int .i64 (i9 : Int)) rfl rfl rfl rfl rfl ?_
              refine RD.idxT (c := TRoute.c) (x := x9) rfl rfl rfl (Int.natCast_nonneg _) hx20 ?_
              refine RD.pure (v' := .agg (TRoute.c x9)) rfl rfl rfl rfl rfl ?_
              generalize hc71 : F11_crossroadslaw08_route x9 = c71 at hL_20
              try dsimp only at hL_20
              refine RD.callp (r := .agg [.int .u32 c71.P.A, .int .i64 c71.P.N, .int .i64 c71.Kind, .int .i64 c71.Cost, .int .u32 c71.Tag]) rfl rfl rfl (f11_ok x9 _ hc71) rfl rfl ?_
              refine RD.pure (v' := .ro 5 (c55.map TRoute.c)) rfl rfl rfl rfl rfl ?_
              refine RD.pure (v' := .int .i64 (i9 : Int)) rfl rfl rfl rfl rfl ?_
              refine RD.idxT (c := TRoute.c) (x := (c55.getD i9 default)) rfl rfl rfl (Int.natCast_nonneg _) (getD_at (by first | exact wrap_u64_nonneg _ | exact wrap_u32_nonneg _ | omega | exact F28_slices_IndexFunc_lt (by assumption) (by assumption) | exact F47_slices_IndexFunc_lt (by assumption) (by assumption) | ((try simp only [decide_eq_true_eq, decide_eq_false_iff_not, Bool.not_eq_true, Bool.not_eq_false] at *); first | omega | (rw [wrap64_of (by omega) (by omega)]; omega) | (unfold min_ max_; (repeat' split) <;> first | omega | (rw [wrap64_of (by omega) (by omega)]; omega))))) ?_
              refine RD.pure (v' := .agg [.int .u32 (((c55.getD i9 default).P).A), .int .i64 (((c55.getD i9 default).P).N), .int .i64 ((c55.getD i9 default).Kind), .int .i64 ((c55.getD i9 default).Cost), .int .u32 ((c55.getD i9 default).Tag)]) rfl rfl rfl rfl rfl ?_
              refine RD.pure (v' := .bool (!(decide (c71.P.A = ((c55.getD i9 default).P).A) && (decide (c71.P.N = ((c55.getD i9 default).P).N) && (decide (c71.Kind = (c55.getD i9 default).Kind) && (decide (c71.Cost = (c55.getD i9 default).Cost) && (decide (c71.Tag = (c55.getD i9 default).Tag) && true))))))) rfl rfl rfl rfl rfl ?_
              refine RD.done rfl ?_
              rcases bool_two (decide (c71.P.A = ((c55.getD i9 default).P).A) && (decide (c71.P.N = ((c55.getD i9 default).P).N) && (decide (c71.Kind = (c55.getD i9 default).Kind) && (decide (c71.Cost = (c55.getD i9 default).Cost) && (decide (c71.Tag = (c55.getD i9 default).Tag) && true))))) with hb27 | hb27
              · rw [hb27]; try simp only [hb27, cond_true, cond_false, Bool.true_and, Bool.false_and, Bool.true_or, Bool.false_or, Bool.not_true, Bool.not_false] at hL_20
                refine WK.condT rfl ?_
                refine WK.seq ?_
                refine WK.regx mixed ?_
                refine GX.pure (v' := .bool false) rfl rfl rfl rfl rfl ?_
                refine GX.done ?_
                refine WK.ret ?_
                refine QF.ret ?_
                refine QF.ret (hQ_20 _ _ ?_)
                subst hL_20
                subst hR
                exact RetQ.fr [] (.inr rfl) rfl rfl rfl rfl
              · rw [hb27]; try simp only [hb27, cond_true, cond_false, Bool.true_and, Bool.false_and, Bool.true_or, Bool.false_or, Bool.not_true, Bool.not_false] at hL_20
                refine WK.condF rfl ?_
                refine WK.skip ?_
                refine WK.nil (QF.normal (hK26 _ ?_))
                refine WK.regx mixed ?_
                refine GX.pure (v' := .int .i64 (i9 : Int)) rfl rfl rfl rfl rfl ?_
                refine GX.pure (v' := .int .i64 ((i9 + 1 : Nat) : Int)) rfl rfl rfl rfl (congrArg (PVal.int .i64) (wrap_up hlt20 hlen_20)) ?_
                refine GX.pure (v' := .int .i64 ((i9 + 1 : Nat) : Int)) rfl rfl rfl rfl rfl ?_
                refine GX.done ?_
                refine WK.nil (QF.normal ?_)
                exact hagain_20 _ (c51.length - (i9 + 1)) ⟨[(1, .ro 5 (l1.map TRoute.c)), (5, .ro 5 (in5.map TRoute.c)), (7, .ro 5 (c51.map TRoute.c)), (8, .ro 5 (c55.map TRoute.c)), (9, .int .i64 ((i9 + 1) : Int))], [], 0⟩ (by first | omega | ((try simp only [List.length_append, List.length_cons, List.length_nil] at *) <;> omega) | (have hlf := may03_len (by assumption) (by assumption); omega)) (Conv.keep [] [] [1, 5, 7, 8, 9] rfl rfl (viewE_cons rfl rfl (viewE_cons rfl rfl (viewE_cons rfl rfl (viewE_cons rfl rfl (viewE_cons rfl rfl viewE_nil))))) rfl rfl) ⟨i9 + 1, (by first | omega | ((try simp only [List.length_append, List.length_cons, List.length_nil] at *) <;> omega) | (have hlf := may03_len (by assumption) (by assumption); omega)), rfl, hL_20, rfl⟩
        · rw [hb18]
          obtain ⟨x6, hx17, hd17, hlt17⟩ := drop_more hb18
          rw [hd17, F6_crossroadslaw08_RmapFilter_l4] at hL_17
          refine WK.condT rfl ?_
          refine WK.skip ?_
          refine WK.seq ?_
          refine WK.blockK (fun _ hK28 => ?_)
          refine WK.seq ?_
          refine WK.seq ?_
          refine WK.regx mixed ?_
          refine GX.pure (v' := .ro 5 (l1.map TRoute.c)) rfl rfl rfl rfl rfl ?_
          refine GX.pure (v' := .int .i64 (i6 : Int)) rfl rfl rfl rfl rfl ?_
          refine GX.idxT (c := TRoute.c) (x := x6) rfl rfl rfl (Int.natCast_nonneg _) hx17 ?_
          refine GX.pure (v' := .agg (TRoute.c x6)) rfl rfl rfl rfl rfl ?_
          generalize hc37 : F11_crossroadslaw08_route x6 = c37 at hL_17
          try dsimp only at hL_17
          refine GX.callp (r := .agg [.int .u32 c37.P.A, .int .i64 c37.P.N, .int .i64 c37.Kind, .int .i64 c37.Cost, .int .u32 c37.Tag]) rfl rfl rfl (f11_ok x6 _ hc37) rfl rfl ?_
          generalize hc38 : F10_crossroadsref08_MayRoute c37 = c38 at hL_17
          try dsimp only at hL_17
          refine GX.callp (r := .bool c38) rfl rfl rfl (f10_ok c37 _ hc38) rfl rfl ?_
          refine GX.pure (v' := .bool (!c38)) rfl rfl rfl rfl rfl ?_
          refine GX.done ?_
          rcases bool_two (c38) with hb29 | hb29
          · rw [hb29]; try simp only [hb29, cond_true, cond_false, Bool.true_and, Bool.false_and, Bool.true_or, Bool.false_or, Bool.not_true, Bool.not_false] at hL_17
            refine WK.condT rfl ?_
            refine WK.seq ?_
            refine WK.regx mixed ?_
            generalize hc40 : F12_crossroadslaw08_alive = c40 at hL_17
            try dsimp only at hL_17
            refine GX.callp (r := .bool c40) rfl rfl rfl (f12_ok  _ hc40) rfl rfl ?_
            refine GX.pure (v' := .bool c40) rfl rfl rfl rfl rfl ?_
            refine GX.done ?_
            refine WK.ret ?_
            refine QF.ret ?_
            refine QF.ret (hQ_17 _ _ ?_)
            subst hL_17
            subst hR
            exact RetQ.fr [] (.inr rfl) rfl rfl rfl rfl
          · rw [hb29]; try simp only [hb29, cond_true, cond_false, Bool.true_and, Bool.false_and, Bool.true_or, Bool.false_or, Bool.not_true, Bool.not_false] at hL_17
            refine WK.condF rfl ?_
            refine WK.skip ?_
            refine WK.regx mixed ?_
            refine GX.pure (v' := .own 0 5 0 in5.length) rfl rfl rfl rfl rfl ?_
            refine GX.pure (v' := .ro 5 (l1.map TRoute.c)) rfl rfl rfl rfl rfl ?_
            refine GX.pure (v' := .int .i64 (i6 : Int)) rfl rfl rfl rfl rfl ?_
            refine GX.idxT (c := TRoute.c) (x := x6) rfl rfl rfl (Int.natCast_nonneg _) hx17 ?_
            refine GX.pure (v' := .agg (TRoute.c x6)) rfl rfl rfl rfl rfl ?_
            refine GX.callp (r := .agg [.int .u32 c37.P.A, .int .i64 c37.P.N, .int .i64 c37.Kind, .int .i64 c37.Cost, .int .u32 c37.Tag]) rfl rfl rfl (f11_ok x6 _ hc37) rfl rfl ?_
            refine GX.step (v' := .own 1 5 0 (([c37] : List TRoute)).length) (heap' := [(0, .row 5 33 (in5.map TRoute.c)), (1, .row 5 33 (([c37] : List TRoute).map TRoute.c))]) (next' := 2) rfl rfl rfl rfl rfl rfl rfl ?_
            refine GX.appT (c := TRoute.c) (L := in5) (X := ([c37] : List TRoute)) (heap' := [(1, .row 5 33 (([c37] : List TRoute).map TRoute.c)), (2, .row 5 33 ((in5 ++ ([c37] : List TRoute)).map TRoute.c))]) (next' := 3) rfl rfl rfl rfl (elems_own rfl) (by first | omega | assumption | ((try simp only [List.length_append, List.length_cons, List.length_nil, List.length_map, decide_eq_true_eq, decide_eq_false_iff_not] at *) <;> omega) | exact hp0 _ (List.mem_of_getElem? (by assumption)) | exact hp1 _ (List.mem_of_getElem? (by assumption)) | exact hp2 _ (List.mem_of_getElem? (by assumption)) | exact hp3 _ (List.mem_of_getElem? (by assumption)) | exact hp4 _ (List.mem_of_getElem? (by assumption)) | exact hp5 _ (List.mem_of_getElem? (by assumption)) | exact small_len (by assumption) (by assumption) | exact small_rules (by assumption) (by assumption) | exact small_rules (by assumption) (by assumption) _ (List.mem_of_getElem? (by assumption)) | (have hszf := small_len (by assumption) (by assumption); (try simp only [List.length_append, List.length_cons, List.length_nil, List.length_map] at *) <;> omega)) (by first | omega | assumption | ((try simp only [List.length_append, List.length_cons, List.length_nil, List.length_map, decide_eq_true_eq, decide_eq_false_iff_not] at *) <;> omega) | exact hp0 _ (List.mem_of_getElem? (by assumption)) | exact hp1 _ (List.mem_of_getElem? (by assumption)) | exact hp2 _ (List.mem_of_getElem? (by assumption)) | exact hp3 _ (List.mem_of_getElem? (by assumption)) | exact hp4 _ (List.mem_of_getElem? (by assumption)) | exact hp5 _ (List.mem_of_getElem? (by assumption)) | exact small_len (by assumption) (by assumption) | exact small_rules (by assumption) (by assumption) | exact small_rules (by assumption) (by assumption) _ (List.mem_of_getElem? (by assumption)) | (have hszf := small_len (by assumption) (by assumption); (try simp only [List.length_append, List.length_cons, List.length_nil, List.length_map] at *) <;> omega)) rfl rfl rfl rfl ?_
            refine GX.pure (v' := .own 2 5 0 (in5 ++ ([c37] : List TRoute)).length) rfl rfl rfl rfl rfl ?_
            refine GX.done ?_
            refine WK.nil (QF.normal (hK28 _ ?_))
            refine WK.regx mixed ?_
            refine GX.pure (v' := .int .i64 (i6 : Int)) rfl rfl rfl rfl rfl ?_
            refine GX.pure (v' := .int .i64 ((i6 + 1 : Nat) : Int)) rfl rfl rfl rfl (congrArg (PVal.int .i64) (wrap_up hlt17 hlen_17)) ?_
            refine GX.pure (v' := .int .i64 ((i6 + 1 : Nat) : Int)) rfl rfl rfl rfl rfl ?_
            refine GX.done ?_
            refine WK.nil (QF.normal ?_)
            exact hagain_17 _ (l1.length - (i6 + 1)) ⟨[(0, .ro 12 (m0.map TClause.c)), (1, .ro 5 (l1.map TRoute.c)), (5, .own 0 5 0 (in5 ++ ([c37] : List TRoute)).length), (6, .int .i64 ((i6 + 1) : Int))], [(0, .row 5 33 ((in5 ++ ([c37] : List TRoute)).map TRoute.c))], 1⟩ (by first | omega | ((try simp only [List.length_append, List.length_cons, List.length_nil] at *) <;> omega) | (have hlf := may03_len (by assumption) (by assumption); omega)) (Conv.keep [2] [] [0, 1, 5, 6] rfl rfl (viewE_cons rfl rfl (viewE_cons rfl rfl (viewE_cons rfl rfl (viewE_cons rfl rfl viewE_nil)))) rfl rfl) ⟨i6 + 1, (in5 ++ ([c37] : List TRoute)), (by first | omega | ((try simp only [List.length_append, List.length_cons, List.length_nil] at *) <;> omega) | (have hlf := may03_len (by assumption) (by assumption); omega)), rfl, (by first | omega | ((try simp only [List.length_append, List.length_cons, List.length_nil] at *) <;> omega) | (have hlf := may03_len (by assumption) (by assumption); omega)), (by first | omega | ((try simp only [List.length_append, List.length_cons, List.length_nil] at *) <;> omega) | (have hlf := may03_len (by assumption) (by assumption); omega)), hL_17, rfl⟩
    · rw [hb2]; try simp only [hb2, cond_true, cond_false, Bool.true_and, Bool.false_and, Bool.true_or, Bool.false_or, Bool.not_true, Bool.not_false] at hR
      refine GX.skip rfl rfl ?_
      refine GX.skip rfl rfl ?_
      refine GX.skip rfl rfl ?_
      refine GX.skip rfl rfl ?_
      refine GX.pure (v' := .bool true) rfl rfl rfl rfl rfl ?_
      refine GX.done ?_
      refine WK.condT rfl ?_
      refine WK.seq ?_
      refine WK.regx mixed ?_
      generalize hc25 : F12_crossroadslaw08_alive = c25 at hR
      try dsimp only at hR
      refine GX.callp (r := .bool c25) rfl rfl rfl (f12_ok  _ hc25) rfl rfl ?_
      refine GX.pure (v' := .bool c25) rfl rfl rfl rfl rfl ?_
      refine GX.done ?_
      refine WK.ret ?_
      subst hR
      exact RetQ.fr [] (.inr rfl) rfl rfl rfl rfl

end Go.Proofs.Ytagiapphmkdnmaa.Abs
