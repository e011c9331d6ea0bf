/- The functions walked: each computes its Lean function (printed by this work's own program gen.py). -/
import Derived.Test.YtagiapphmkdnmaaW8
set_option linter.unusedVariables false
set_option linter.unusedSimpArgs false
set_option maxRecDepth 10000
set_option maxHeartbeats 4000000
namespace Go.Proofs.Ytagiapphmkdnmaa.Abs
open Go

theorem f4_ok (m0 : List TClause) (t1 : TRoute) (R : Bool) (hR : F4_crossroadslaw08_RmapClause m0 t1 = R) : FnOk Try.prog 4 [.ro 12 (m0.map TClause.c), .agg (TRoute.c t1)] [] 0 (.bool R) [] 0 := by
  refine FnOk.wk i4 rfl rfl ?_
  unfold F4_crossroadslaw08_RmapClause at hR
  change WK _ _ _ [ac4] _ ⟨[(0, .ro 12 (m0.map TClause.c)), (1, .agg (TRoute.c t1))], [], 0⟩
  unfold ac4
  refine WK.seq ?_
  refine WK.regx mixed ?_
  refine GX.step (v' := .ptr 0 0) (heap' := [(0, .box (TRoute.c t1))]) (next' := 1) rfl rfl rfl rfl rfl rfl rfl ?_
  refine GX.pure (v' := .bool false) rfl rfl rfl rfl rfl ?_
  refine GX.done ?_
  refine WK.seq ?_
  refine WK.seq ?_
  refine WK.regx mixed ?_
  refine GX.pure (v' := .ro 12 (m0.map TClause.c)) rfl rfl rfl rfl rfl ?_
  generalize hc7 : F7_crossroadslaw08_small m0 = c7 at hR
  try dsimp only at hR
  refine GX.callp (r := .bool c7) rfl rfl rfl (f7_ok m0 _ hc7) rfl rfl ?_
  refine GX.pure (v' := .bool (!c7)) rfl rfl rfl rfl rfl ?_
  refine GX.done ?_
  rcases bool_two (c7) with hb1 | hb1
  · rw [hb1]; try simp only [hb1, cond_true, cond_false, Bool.true_and, Bool.false_and, Bool.true_or, Bool.false_or, Bool.not_true, Bool.not_false] at hR
    refine WK.condT rfl ?_
    refine WK.seq ?_
    refine WK.regx mixed ?_
    generalize hc9 : F12_crossroadslaw08_alive = c9 at hR
    try dsimp only at hR
    refine GX.callp (r := .bool c9) rfl rfl rfl (f12_ok  _ hc9) rfl rfl ?_
    refine GX.pure (v' := .bool c9) rfl rfl rfl rfl rfl ?_
    refine GX.done ?_
    refine WK.ret ?_
    subst hR
    exact RetQ.fr [] (.inr rfl) rfl rfl rfl rfl
  · rw [hb1]; try simp only [hb1, cond_true, cond_false, Bool.true_and, Bool.false_and, Bool.true_or, Bool.false_or, Bool.not_true, Bool.not_false] at hR
    refine WK.condF rfl ?_
    refine WK.skip ?_
    refine WK.seq ?_
    refine WK.seq ?_
    refine WK.regx mixed ?_
    refine GX.pure (v' := .ro 12 (m0.map TClause.c)) rfl rfl rfl rfl rfl ?_
    generalize hc11 : F14_rmap_MayAll m0 = c11 at hR
    try dsimp only at hR
    refine GX.callp (r := .bool c11) rfl rfl rfl (f14_ok m0 _ hc11) rfl rfl ?_
    refine GX.pure (v' := .ro 12 (m0.map TClause.c)) rfl rfl rfl rfl rfl ?_
    generalize hc13 : F9_crossroadslaw08_rows m0 = c13 at hR
    try dsimp only at hR
    refine GX.callp (r := .ro 12 (c13.map TClause.c)) rfl rfl rfl (f9_ok m0 (by first | omega | assumption | ((try simp only [List.length_append, List.length_cons, List.length_nil, List.length_map, decide_eq_true_eq, decide_eq_false_iff_not] at *) <;> omega) | exact hp0 _ (List.mem_of_getElem? (by assumption)) | exact hp1 _ (List.mem_of_getElem? (by assumption)) | exact hp2 _ (List.mem_of_getElem? (by assumption)) | exact hp3 _ (List.mem_of_getElem? (by assumption)) | exact hp4 _ (List.mem_of_getElem? (by assumption)) | exact hp5 _ (List.mem_of_getElem? (by assumption)) | exact small_len (by assumption) (by assumption) | exact small_rules (by assumption) (by assumption) | exact small_rules (by assumption) (by assumption) _ (List.mem_of_getElem? (by assumption)) | (have hszf := small_len (by assumption) (by assumption); (try simp only [List.length_append, List.length_cons, List.length_nil, List.length_map] at *) <;> omega)) (by first | omega | assumption | ((try simp only [List.length_append, List.length_cons, List.length_nil, List.length_map, decide_eq_true_eq, decide_eq_false_iff_not] at *) <;> omega) | exact hp0 _ (List.mem_of_getElem? (by assumption)) | exact hp1 _ (List.mem_of_getElem? (by assumption)) | exact hp2 _ (List.mem_of_getElem? (by assumption)) | exact hp3 _ (List.mem_of_getElem? (by assumption)) | exact hp4 _ (List.mem_of_getElem? (by assumption)) | exact hp5 _ (List.mem_of_getElem? (by assumption)) | exact small_len (by assumption) (by assumption) | exact small_rules (by assumption) (by assumption) | exact small_rules (by assumption) (by assumption) _ (List.mem_of_getElem? (by assumption)) | (have hszf := small_len (by assumption) (by assumption); (try simp only [List.length_append, List.length_cons, List.length_nil, List.length_map] at *) <;> omega)) _ hc13) rfl rfl ?_
    generalize hc14 : F8_crossroadsref08_MayAll c13 = c14 at hR
    try dsimp only at hR
    refine GX.callp (r := .bool c14) rfl rfl rfl (f8_ok c13 _ hc14) rfl rfl ?_
    refine GX.pure (v' := .bool (!(c11 == c14))) rfl rfl rfl rfl rfl ?_
    refine GX.done ?_
    rcases bool_two (c11 == c14) with hb2 | hb2
    · rw [hb2]; try simp only [hb2, cond_true, cond_false, Bool.true_and, Bool.false_and, Bool.true_or, Bool.false_or, Bool.not_true, Bool.not_false] at hR
      refine WK.condT rfl ?_
      refine WK.seq ?_
      refine WK.regx mixed ?_
      refine GX.pure (v' := .bool false) rfl rfl rfl rfl rfl ?_
      refine GX.done ?_
      refine WK.ret ?_
      subst hR
      exact RetQ.fr [] (.inr rfl) rfl rfl rfl rfl
    · rw [hb2]; try simp only [hb2, cond_true, cond_false, Bool.true_and, Bool.false_and, Bool.true_or, Bool.false_or, Bool.not_true, Bool.not_false] at hR
      refine WK.condF rfl ?_
      refine WK.skip ?_
      refine WK.seq ?_
      refine WK.seq ?_
      refine WK.regx mixed ?_
      refine GX.pure (v' := .int .i64 0) rfl rfl rfl rfl rfl ?_
      refine GX.done ?_
      refine WK.len (t := 0) rfl (by simp) (fun hlen_3 => ?_)
      rw [List.length_map] at hlen_3
      generalize hZ_3 : F4_crossroadslaw08_RmapClause_l1 t1 m0 = Z_3 at hR
      refine WK.forK (fun k s => ∃ (i5 : Nat), i5 ≤ m0.length ∧ k = m0.length - i5 ∧ F4_crossroadslaw08_RmapClause_l1 t1 (m0.drop i5) = Z_3 ∧ s = ⟨[(0, .ro 12 (m0.map TClause.c)), (3, .ptr 0 0), (5, .int .i64 (i5 : Int))], [(0, .box (TRoute.c t1))], 1⟩) m0.length ⟨⟨[(0, .ro 12 (m0.map TClause.c)), (3, .ptr 0 0), (5, .int .i64 (0 : Int))], [(0, .box (TRoute.c t1))], 1⟩, Conv.keep [0] [] [0, 3, 5] rfl rfl (viewE_cons rfl rfl (viewE_cons rfl rfl (viewE_cons rfl rfl viewE_nil))) rfl rfl, 0, (by first | omega | ((try simp only [List.length_append, List.length_cons, List.length_nil] at *) <;> omega) | (have hlf := may03_len (by assumption) (by assumption); omega)), rfl, hZ_3, rfl⟩ ?_
      rintro _ _ ⟨i5, hi_3, rfl, hL_3, rfl⟩ again_3 out_3 Q_3 hagain_3 hout_3 hQ_3
      refine WK.seq ?_
      refine WK.seq ?_
      refine WK.regx mixed ?_
      refine GX.pure (v' := .int .i64 (i5 : Int)) rfl rfl rfl rfl rfl ?_
      refine GX.pure (v' := .ro 12 (m0.map TClause.c)) rfl rfl rfl rfl rfl ?_
      refine GX.pure (v' := .int .i64 (m0.length : Int)) rfl rfl rfl rfl (len_map _ _) ?_
      refine GX.pure (v' := .bool (decide ((i5 : Int) < (m0.length : Int)))) rfl rfl rfl rfl rfl ?_
      refine GX.done ?_
      rcases bool_two (decide ((i5 : Int) < (m0.length : Int))) with hb4 | hb4
      · rw [hb4]
        rw [drop_end hb4, F4_crossroadslaw08_RmapClause_l1] at hL_3
        refine WK.condF rfl ?_
        refine WK.exit ?_
        refine QF.exit (hout_3 _ ?_)
        subst hL_3
        try dsimp only [cond_true, cond_false] at hR
        refine WK.seq ?_
        refine WK.regx mixed ?_
        generalize hc80 : F12_crossroadslaw08_alive = c80 at hR
        try dsimp only at hR
        refine GX.callp (r := .bool c80) rfl rfl rfl (f12_ok  _ hc80) rfl rfl ?_
        refine GX.pure (v' := .bool c80) rfl rfl rfl rfl rfl ?_
        refine GX.done ?_
        refine WK.ret ?_
        subst hR
        exact RetQ.fr [] (.inr rfl) rfl rfl rfl rfl
      · rw [hb4]
        obtain ⟨x5, hx3, hd3, hlt3⟩ := drop_more hb4
        rw [hd3, F4_crossroadslaw08_RmapClause_l1] at hL_3
        refine WK.condT rfl ?_
        refine WK.skip ?_
        refine WK.seq ?_
        refine WK.blockK (fun _ hK5 => ?_)
        refine WK.seq ?_
        refine WK.seq ?_
        refine WK.drawn mixed ?_
        refine RD.pure (v' := .ro 12 (m0.map TClause.c)) rfl rfl rfl rfl rfl ?_
        refine RD.pure (v' := .int .i64 (i5 : Int)) rfl rfl rfl rfl rfl ?_
        refine RD.idxT (c := TClause.c) (x := x5) rfl rfl rfl (Int.natCast_nonneg _) hx3 ?_
        refine RD.pure (v' := .agg (TClause.c x5)) rfl rfl rfl rfl rfl ?_
        generalize hc26 : F15_rmap_May x5 = c26 at hL_3
        try dsimp only at hL_3
        refine RD.callp (r := .bool c26) rfl rfl rfl (f15_ok x5 _ hc26) rfl rfl ?_
        refine RD.pure (v' := .ro 12 (m0.map TClause.c)) rfl rfl rfl rfl rfl ?_
        refine RD.pure (v' := .int .i64 (i5 : Int)) rfl rfl rfl rfl rfl ?_
        refine RD.idxT (c := TClause.c) (x := x5) rfl rfl rfl (Int.natCast_nonneg _) hx3 ?_
        refine RD.pure (v' := .agg (TClause.c x5)) rfl rfl rfl rfl rfl ?_
        generalize hc31 : F17_crossroadslaw08_plain x5 = c31 at hL_3
        try dsimp only at hL_3
        refine RD.callp (r := .agg [.int .i64 c31.Seq, .bool c31.Permit, .ro 6 (c31.Listf.map TRule.c), .int .i64 c31.MKind, .int .i64 c31.MLow, .int .i64 c31.MHigh, .ro 1 (c31.MTags.map c_u32), .int .i64 c31.SCost, .int .i64 c31.SPlus, .int .i64 c31.SKind, .bool c31.SetTag, .int .u32 c31.STag]) rfl rfl rfl (f17_ok x5 (by first | omega | assumption | ((try simp only [List.length_append, List.length_cons, List.length_nil, List.length_map, decide_eq_true_eq, decide_eq_false_iff_not] at *) <;> omega) | exact hp0 _ (List.mem_of_getElem? (by assumption)) | exact hp1 _ (List.mem_of_getElem? (by assumption)) | exact hp2 _ (List.mem_of_getElem? (by assumption)) | exact hp3 _ (List.mem_of_getElem? (by assumption)) | exact hp4 _ (List.mem_of_getElem? (by assumption)) | exact hp5 _ (List.mem_of_getElem? (by assumption)) | exact small_len (by assumption) (by assumption) | exact small_rules (by assumption) (by assumption) | exact small_rules (by assumption) (by assumption) _ (List.mem_of_getElem? (by assumption)) | (have hszf := small_len (by assumption) (by assumption); (try simp only [List.length_append, List.length_cons, List.length_nil, List.length_map] at *) <;> omega)) _ hc31) rfl rfl ?_
        generalize hc32 : F16_crossroadsref08_May c31 = c32 at hL_3
        try dsimp only at hL_3
        refine RD.callp (r := .bool c32) rfl rfl rfl (f16_ok c31 _ hc32) rfl rfl ?_
        refine RD.pure (v' := .bool (!(c26 == c32))) rfl rfl rfl rfl rfl ?_
        refine RD.done rfl ?_
        rcases bool_two (c26 == c32) with hb6 | hb6
        · rw [hb6]; try simp only [hb6, cond_true, cond_false, Bool.true_and, Bool.false_and, Bool.true_or, Bool.false_or, Bool.not_true, Bool.not_false] at hL_3
          refine WK.condT rfl ?_
          refine WK.seq ?_
          refine WK.regx mixed ?_
          refine GX.pure (v' := .bool false) rfl rfl rfl rfl rfl ?_
          refine GX.done ?_
          refine WK.ret ?_
          refine QF.ret ?_
          refine QF.ret (hQ_3 _ _ ?_)
          subst hL_3
          subst hR
          exact RetQ.fr [] (.inr rfl) rfl rfl rfl rfl
        · rw [hb6]; try simp only [hb6, cond_true, cond_false, Bool.true_and, Bool.false_and, Bool.true_or, Bool.false_or, Bool.not_true, Bool.not_false] at hL_3
          refine WK.condF rfl ?_
          refine WK.skip ?_
          refine WK.seq ?_
          refine WK.seq ?_
          refine WK.regx mixed ?_
          refine GX.pure (v' := .ro 12 (m0.map TClause.c)) rfl rfl rfl rfl rfl ?_
          refine GX.pure (v' := .int .i64 (i5 : Int)) rfl rfl rfl rfl rfl ?_
          refine GX.idxT (c := TClause.c) (x := x5) rfl rfl rfl (Int.natCast_nonneg _) hx3 ?_
          refine GX.pure (v' := .agg (TClause.c x5)) rfl rfl rfl rfl rfl ?_
          refine GX.callp (r := .agg [.int .i64 c31.Seq, .bool c31.Permit, .ro 6 (c31.Listf.map TRule.c), .int .i64 c31.MKind, .int .i64 c31.MLow, .int .i64 c31.MHigh, .ro 1 (c31.MTags.map c_u32), .int .i64 c31.SCost, .int .i64 c31.SPlus, .int .i64 c31.SKind, .bool c31.SetTag, .int .u32 c31.STag]) rfl rfl rfl (f17_ok x5 (by first | omega | assumption | ((try simp only [List.length_append, List.length_cons, List.length_nil, List.length_map, decide_eq_true_eq, decide_eq_false_iff_not] at *) <;> omega) | exact hp0 _ (List.mem_of_getElem? (by assumption)) | exact hp1 _ (List.mem_of_getElem? (by assumption)) | exact hp2 _ (List.mem_of_getElem? (by assumption)) | exact hp3 _ (List.mem_of_getElem? (by assumption)) | exact hp4 _ (List.mem_of_getElem? (by assumption)) | exact hp5 _ (List.mem_of_getElem? (by assumption)) | exact small_len (by assumption) (by assumption) | exact small_rules (by assumption) (by assumption) | exact small_rules (by assumption) (by assumption) _ (List.mem_of_getElem? (by assumption)) | (have hszf := small_len (by assumption) (by assumption); (try simp only [List.length_append, List.length_cons, List.length_nil, List.length_map] at *) <;> omega)) _ hc31) rfl rfl ?_
          refine GX.callp (r := .bool c32) rfl rfl rfl (f16_ok c31 _ hc32) rfl rfl ?_
          refine GX.pure (v' := .bool (!c32)) rfl rfl rfl rfl rfl ?_
          refine GX.pure (v' := .bool (!c32)) rfl rfl rfl rfl rfl ?_
          rcases bool_two (c32) with hb7 | hb7
          · rw [hb7]; try simp only [hb7, cond_true, cond_false, Bool.true_and, Bool.false_and, Bool.true_or, Bool.false_or, Bool.not_true, Bool.not_false] at hL_3
            refine GX.skip rfl rfl ?_
            refine GX.skip rfl rfl ?_
            refine GX.skip rfl rfl ?_
            refine GX.skip rfl rfl ?_
            refine GX.pure (v' := .bool true) rfl rfl rfl rfl rfl ?_
            refine GX.done ?_
            refine WK.condT rfl ?_
            refine WK.exit ?_
            refine QF.exit (hK5 _ ?_)
            refine WK.regx mixed ?_
            refine GX.pure (v' := .int .i64 (i5 : Int)) rfl rfl rfl rfl rfl ?_
            refine GX.pure (v' := .int .i64 ((i5 + 1 : Nat) : Int)) rfl rfl rfl rfl (congrArg (PVal.int .i64) (wrap_up hlt3 hlen_3)) ?_
            refine GX.pure (v' := .int .i64 ((i5 + 1 : Nat) : Int)) rfl rfl rfl rfl rfl ?_
            refine GX.done ?_
            refine WK.nil (QF.normal ?_)
            exact hagain_3 _ (m0.length - (i5 + 1)) ⟨[(0, .ro 12 (m0.map TClause.c)), (3, .ptr 0 0), (5, .int .i64 ((i5 + 1) : Int))], [(0, .box (TRoute.c t1))], 1⟩ (by first | omega | ((try simp only [List.length_append, List.length_cons, List.length_nil] at *) <;> omega) | (have hlf := may03_len (by assumption) (by assumption); omega)) (Conv.keep [0] [] [0, 3, 5] rfl rfl (viewE_cons rfl rfl (viewE_cons rfl rfl (viewE_cons rfl rfl viewE_nil))) rfl rfl) ⟨i5 + 1, (by first | omega | ((try simp only [List.length_append, List.length_cons, List.length_nil] at *) <;> omega) | (have hlf := may03_len (by assumption) (by assumption); omega)), rfl, hL_3, rfl⟩
          · rw [hb7]; try simp only [hb7, cond_true, cond_false, Bool.true_and, Bool.false_and, Bool.true_or, Bool.false_or, Bool.not_true, Bool.not_false] at hL_3
            refine GX.pure (v' := .agg (TRoute.c t1)) rfl rfl rfl rfl rfl ?_
            generalize hc43 : F11_crossroadslaw08_route t1 = c43 at hL_3
            try dsimp only at hL_3
            refine GX.callp (r := .agg [.int .u32 c43.P.A, .int .i64 c43.P.N, .int .i64 c43.Kind, .int .i64 c43.Cost, .int .u32 c43.Tag]) rfl rfl rfl (f11_ok t1 _ hc43) rfl rfl ?_
            generalize hc44 : F10_crossroadsref08_MayRoute c43 = c44 at hL_3
            try dsimp only at hL_3
            refine GX.callp (r := .bool c44) rfl rfl rfl (f10_ok c43 _ hc44) rfl rfl ?_
            refine GX.pure (v' := .bool (!c44)) rfl rfl rfl rfl rfl ?_
            refine GX.pure (v' := .bool (!c44)) rfl rfl rfl rfl rfl ?_
            refine GX.done ?_
            rcases bool_two (c44) with hb8 | hb8
            · rw [hb8]; try simp only [hb8, cond_true, cond_false, Bool.true_and, Bool.false_and, Bool.true_or, Bool.false_or, Bool.not_true, Bool.not_false] at hL_3
              refine WK.condT rfl ?_
              refine WK.exit ?_
              refine QF.exit (hK5 _ ?_)
              refine WK.regx mixed ?_
              refine GX.pure (v' := .int .i64 (i5 : Int)) rfl rfl rfl rfl rfl ?_
              refine GX.pure (v' := .int .i64 ((i5 + 1 : Nat) : Int)) rfl rfl rfl rfl (congrArg (PVal.int .i64) (wrap_up hlt3 hlen_3)) ?_
              refine GX.pure (v' := .int .i64 ((i5 + 1 : Nat) : Int)) rfl rfl rfl rfl rfl ?_
              refine GX.done ?_
              refine WK.nil (QF.normal ?_)
              exact hagain_3 _ (m0.length - (i5 + 1)) ⟨[(0, .ro 12 (m0.map TClause.c)), (3, .ptr 0 0), (5, .int .i64 ((i5 + 1) : Int))], [(0, .box (TRoute.c t1))], 1⟩ (by first | omega | ((try simp only [List.length_append, List.length_cons, List.length_nil] at *) <;> omega) | (have hlf := may03_len (by assumption) (by assumption); omega)) (Conv.keep [0] [] [0, 3, 5] rfl rfl (viewE_cons rfl rfl (viewE_cons rfl rfl (viewE_cons rfl rfl viewE_nil))) rfl rfl) ⟨i5 + 1, (by first | omega | ((try simp only [List.length_append, List.length_cons, List.length_nil] at *) <;> omega) | (have hlf := may03_len (by assumption) (by assumption); omega)), rfl, hL_3, rfl⟩
            · rw [hb8]; try simp only [hb8, cond_true, cond_false, Bool.true_and, Bool.false_and, Bool.true_or, Bool.false_or, Bool.not_true, Bool.not_false] at hL_3
              refine WK.condF rfl ?_
              refine WK.skip ?_
              refine WK.seq ?_
              refine WK.drawn mixed ?_
              refine RD.pure (v' := .ro 12 (m0.map TClause.c)) rfl rfl rfl rfl rfl ?_
              refine RD.pure (v' := .int .i64 (i5 : Int)) rfl rfl rfl rfl rfl ?_
              refine RD.idxT (c := TClause.c) (x := x5) rfl rfl rfl (Int.natCast_nonneg _) hx3 ?_
              refine RD.pure (v' := .agg (TClause.c x5)) rfl rfl rfl rfl rfl ?_
              refine RD.pure (v' := .agg (TRoute.c t1)) rfl rfl rfl rfl rfl ?_
              generalize hc52 : F18_rmap_Matches x5 t1 = c52 at hL_3
              try dsimp only at hL_3
              refine RD.callp (r := .bool c52) rfl rfl rfl (f18_ok x5 t1 _ hc52) rfl rfl ?_
              refine RD.pure (v' := .ro 12 (m0.map TClause.c)) rfl rfl rfl rfl rfl ?_
              refine RD.pure (v' := .int .i64 (i5 : Int)) rfl rfl rfl rfl rfl ?_
              refine RD.idxT (c := TClause.c) (x := x5) rfl rfl rfl (Int.natCast_nonneg _) hx3 ?_
              refine RD.pure (v' := .agg (TClause.c x5)) rfl rfl rfl rfl rfl ?_
              refine RD.callp (r := .agg [.int .i64 c31.Seq, .bool c31.Permit, .ro 6 (c31.Listf.map TRule.c), .int .i64 c31.MKind, .int .i64 c31.MLow, .int .i64 c31.MHigh, .ro 1 (c31.MTags.map c_u32), .int .i64 c31.SCost, .int .i64 c31.SPlus, .int .i64 c31.SKind, .bool c31.SetTag, .int .u32 c31.STag]) rfl rfl rfl (f17_ok x5 (by first | omega | assumption | ((try simp only [List.length_append, List.length_cons, List.length_nil, List.length_map, decide_eq_true_eq, decide_eq_false_iff_not] at *) <;> omega) | exact hp0 _ (List.mem_of_getElem? (by assumption)) | exact hp1 _ (List.mem_of_getElem? (by assumption)) | exact hp2 _ (List.mem_of_getElem? (by assumption)) | exact hp3 _ (List.mem_of_getElem? (by assumption)) | exact hp4 _ (List.mem_of_getElem? (by assumption)) | exact hp5 _ (List.mem_of_getElem? (by assumption)) | exact small_len (by assumption) (by assumption) | exact small_rules (by assumption) (by assumption) | exact small_rules (by assumption) (by assumption) _ (List.mem_of_getElem? (by assumption)) | (have hszf := small_len (by assumption) (by assumption); (try simp only [List.length_append, List.length_cons, List.length_nil, List.length_map] at *) <;> omega)) _ hc31) rfl rfl ?_
              refine RD.pure (v' := .agg (TRoute.c t1)) rfl rfl rfl rfl rfl ?_
              refine RD.callp (r := .agg [.int .u32 c43.P.A, .int .i64 c43.P.N, .int .i64 c43.Kind, .int .i64 c43.Cost, .int .u32 c43.Tag]) rfl rfl rfl (f11_ok t1 _ hc43) rfl rfl ?_
              generalize hc60 : F19_crossroadsref08_Matches c31 c43 = c60 at hL_3
              try dsimp only at hL_3
              refine RD.callp (r := .bool c60) rfl rfl rfl (f19_ok c31 c43 _ hc60) rfl rfl ?_
              refine RD.pure (v' := .bool (!(c52 == c60))) rfl rfl rfl rfl rfl ?_
              refine RD.pure (v' := .bool (!(c52 == c60))) rfl rfl rfl rfl rfl ?_
              rcases bool_two (c52 == c60) with hb9 | hb9
              · rw [hb9]; try simp only [hb9, cond_true, cond_false, Bool.true_and, Bool.false_and, Bool.true_or, Bool.false_or, Bool.not_true, Bool.not_false] at hL_3
                refine RD.skip rfl rfl ?_
                refine RD.skip rfl rfl ?_
                refine RD.skip rfl rfl ?_
                refine RD.skip rfl rfl ?_
                refine RD.skip rfl rfl ?_
                refine RD.skip rfl rfl ?_
                refine RD.skip rfl rfl ?_
                refine RD.skip rfl rfl ?_
                refine RD.skip rfl rfl ?_
                refine RD.skip rfl rfl ?_
                refine RD.skip rfl rfl ?_
                refine RD.skip rfl rfl ?_
                refine RD.skip rfl rfl ?_
                refine RD.skip rfl rfl ?_
                refine RD.skip rfl rfl ?_
                refine RD.skip rfl rfl ?_
                refine RD.pure (v' := .bool true) rfl rfl rfl rfl rfl ?_
                refine RD.done rfl ?_
                refine WK.condT rfl ?_
                refine WK.seq ?_
                refine WK.regx mixed ?_
                refine GX.pure (v' := .bool false) rfl rfl rfl rfl rfl ?_
                refine GX.done ?_
                refine WK.ret ?_
                refine QF.ret ?_
                refine QF.ret (hQ_3 _ _ ?_)
                subst hL_3
                subst hR
                exact RetQ.fr [] (.inr rfl) rfl rfl rfl rfl
              · rw [hb9]; try simp only [hb9, cond_true, cond_false, Bool.true_and, Bool.false_and, Bool.true_or, Bool.false_or, Bool.not_true, Bool.not_false] at hL_3
                refine RD.pure (v' := .ro 12 (m0.map TClause.c)) rfl rfl rfl rfl rfl ?_
                refine RD.pure (v' := .int .i64 (i5 : Int)) rfl rfl rfl rfl rfl ?_
                refine RD.idxT (c := TClause.c) (x := x5) rfl rfl rfl (Int.natCast_nonneg _) hx3 ?_
                refine RD.pure (v' := .agg (TClause.c x5)) rfl rfl rfl rfl rfl ?_
                refine RD.pure (v' := .agg (TRoute.c t1)) rfl rfl rfl rfl rfl ?_
                generalize hc68 : F20_rmap_Change x5 t1 = c68 at hL_3
                try dsimp only at hL_3
                refine RD.callp (r := .agg [.int .u32 c68.P.A, .int .i64 c68.P.N, .int .i64 c68.Kind, .int .i64 c68.Cost, .int .u32 c68.Tag]) rfl rfl rfl (f20_ok x5 t1 _ hc68) rfl rfl ?_
                generalize hc69 : F11_crossroadslaw08_route c68 = c69 at hL_3
                try dsimp only at hL_3
                refine RD.callp (r := .agg [.int .u32 c69.P.A, .int .i64 c69.P.N, .int .i64 c69.Kind, .int .i64 c69.Cost, .int .u32 c69.Tag]) rfl rfl rfl (f11_ok c68 _ hc69) rfl rfl ?_
                refine RD.pure (v' := .ro 12 (m0.map TClause.c)) rfl rfl rfl rfl rfl ?_
                refine RD.pure (v' := .int .i64 (i5 : Int)) rfl rfl rfl rfl rfl ?_
                refine RD.idxT (c := TClause.c) (x := x5) rfl rfl rfl (Int.natCast_nonneg _) hx3 ?_
                refine RD.pure (v' := .agg (TClause.c x5)) rfl rfl rfl rfl rfl ?_
                refine RD.callp (r := .agg [.int .i64 c31.Seq, .bool c31.Permit, .ro 6 (c31.Listf.map TRule.c), .int .i64 c31.MKind, .int .i64 c31.MLow, .int .i64 c31.MHigh, .ro 1 (c31.MTags.map c_u32), .int .i64 c31.SCost, .int .i64 c31.SPlus, .int .i64 c31.SKind, .bool c31.SetTag, .int .u32 c31.STag]) rfl rfl rfl (f17_ok x5 (by first | omega | assumption | ((try simp only [List.length_append, List.length_cons, List.length_nil, List.length_map, decide_eq_true_eq, decide_eq_false_iff_not] at *) <;> omega) | exact hp0 _ (List.mem_of_getElem? (by assumption)) | exact hp1 _ (List.mem_of_getElem? (by assumption)) | exact hp2 _ (List.mem_of_getElem? (by assumption)) | exact hp3 _ (List.mem_of_getElem? (by assumption)) | exact hp4 _ (List.mem_of_getElem? (by assumption)) | exact hp5 _ (List.mem_of_getElem? (by assumption)) | exact small_len (by assumption) (by assumption) | exact small_rules (by assumption) (by assumption) | exact small_rules (by assumption) (by assumption) _ (List.mem_of_getElem? (by assumption)) | (have hszf := small_len (by assumption) (by assumption); (try simp only [List.length_append, List.length_cons, List.length_nil, List.length_map] at *) <;> omega)) _ hc31) rfl rfl ?_
                refine RD.pure (v' := .agg (TRoute.c t1)) rfl rfl rfl rfl rfl ?_
                refine RD.callp (r := .agg [.int .u32 c43.P.A, .int .i64 c43.P.N, .int .i64 c43.Kind, .int .i64 c43.Cost, .int .u32 c43.Tag]) rfl rfl rfl (f11_ok t1 _ hc43) rfl rfl ?_
                generalize hc77 : F21_crossroadsref08_Change c31 c43 = c77 at hL_3
                try dsimp only at hL_3
                refine RD.callp (r := .agg [.int .u32 c77.P.A, .int .i64 c77.P.N, .int .i64 c77.Kind, .int .i64 c77.Cost, .int .u32 c77.Tag]) rfl rfl rfl (f21_ok c31 c43 _ hc77) rfl rfl ?_
                refine RD.pure (v' := .bool (!(decide (c69.P.A = c77.P.A) && (decide (c69.P.N = c77.P.N) && (decide (c69.Kind = c77.Kind) && (decide (c69.Cost = c77.Cost) && (decide (c69.Tag = c77.Tag) && true))))))) rfl rfl rfl rfl rfl ?_
                refine RD.pure (v' := .bool (!(decide (c69.P.A = c77.P.A) && (decide (c69.P.N = c77.P.N) && (decide (c69.Kind = c77.Kind) && (decide (c69.Cost = c77.Cost) && (decide (c69.Tag = c77.Tag) && true))))))) rfl rfl rfl rfl rfl ?_
                refine RD.done rfl ?_
                rcases bool_two (decide (c69.P.A = c77.P.A) && (decide (c69.P.N = c77.P.N) && (decide (c69.Kind = c77.Kind) && (decide (c69.Cost = c77.Cost) && (decide (c69.Tag = c77.Tag) && true))))) with hb10 | hb10
                · rw [hb10]; try simp only [hb10, cond_true, cond_false, Bool.true_and, Bool.false_and, Bool.true_or, Bool.false_or, Bool.not_true, Bool.not_false] at hL_3
                  refine WK.condT rfl ?_
                  refine WK.seq ?_
                  refine WK.regx mixed ?_
                  refine GX.pure (v' := .bool false) rfl rfl rfl rfl rfl ?_
                  refine GX.done ?_
                  refine WK.ret ?_
                  refine QF.ret ?_
                  refine QF.ret (hQ_3 _ _ ?_)
                  subst hL_3
                  subst hR
                  exact RetQ.fr [] (.inr rfl) rfl rfl rfl rfl
                · rw [hb10]; try simp only [hb10, cond_true, cond_false, Bool.true_and, Bool.false_and, Bool.true_or, Bool.false_or, Bool.not_true, Bool.not_false] at hL_3
                  refine WK.condF rfl ?_
                  refine WK.skip ?_
                  refine WK.nil (QF.normal (hK5 _ ?_))
                  refine WK.regx mixed ?_
                  refine GX.pure (v' := .int .i64 (i5 : Int)) rfl rfl rfl rfl rfl ?_
                  refine GX.pure (v' := .int .i64 ((i5 + 1 : Nat) : Int)) rfl rfl rfl rfl (congrArg (PVal.int .i64) (wrap_up hlt3 hlen_3)) ?_
                  refine GX.pure (v' := .int .i64 ((i5 + 1 : Nat) : Int)) rfl rfl rfl rfl rfl ?_
                  refine GX.done ?_
                  refine WK.nil (QF.normal ?_)
                  exact hagain_3 _ (m0.length - (i5 + 1)) ⟨[(0, .ro 12 (m0.map TClause.c)), (3, .ptr 0 0), (5, .int .i64 ((i5 + 1) : Int))], [(0, .box (TRoute.c t1))], 1⟩ (by first | omega | ((try simp only [List.length_append, List.length_cons, List.length_nil] at *) <;> omega) | (have hlf := may03_len (by assumption) (by assumption); omega)) (Conv.keep [0] [] [0, 3, 5] rfl rfl (viewE_cons rfl rfl (viewE_cons rfl rfl (viewE_cons rfl rfl viewE_nil))) rfl rfl) ⟨i5 + 1, (by first | omega | ((try simp only [List.length_append, List.length_cons, List.length_nil] at *) <;> omega) | (have hlf := may03_len (by assumption) (by assumption); omega)), rfl, hL_3, rfl⟩

theorem f22_ok (m0 : List TClause) (t1 : TRoute) (R : TRoute × Bool × Int) (hR : F22_crossroadsref08_Eval m0 t1 = R) : FnOk Try.prog 22 [.ro 12 (m0.map TClause.c), .agg (TRoute.c t1)] [] 0 (.tup [.agg (TRoute.c R.1), .bool R.2.1, .int .i64 R.2.2]) [] 0 := by
  refine FnOk.wk i22 rfl rfl ?_
  unfold F22_crossroadsref08_Eval at hR
  change WK _ _ _ [ac22] _ ⟨[(0, .ro 12 (m0.map TClause.c)), (1, .agg (TRoute.c t1))], [], 0⟩
  unfold ac22
  refine WK.seq ?_
  refine WK.regx mixed ?_
  refine GX.step (v' := .ptr 0 0) (heap' := [(0, .box (TRoute.c t1))]) (next' := 1) rfl rfl rfl rfl rfl rfl rfl ?_
  refine GX.step (v' := .ptr 1 0) (heap' := [(0, .box (TRoute.c t1)), (1, .box [.int .u32 0, .int .i64 0, .int .i64 0, .int .i64 0, .int .u32 0])]) (next' := 2) rfl rfl rfl rfl rfl rfl rfl ?_
  refine GX.pure (v' := .bool false) rfl rfl rfl rfl rfl ?_
  refine GX.pure (v' := .int .i64 0) rfl rfl rfl rfl rfl ?_
  refine GX.done ?_
  refine WK.seq ?_
  refine WK.seq ?_
  refine WK.regx mixed ?_
  refine GX.pure (v' := .int .i64 0) rfl rfl rfl rfl rfl ?_
  refine GX.done ?_
  refine WK.len (t := 0) rfl (by simp) (fun hlen_1 => ?_)
  rw [List.length_map] at hlen_1
  generalize hZ_1 : F22_crossroadsref08_Eval_l1 t1 m0 = Z_1 at hR
  refine WK.forK (fun k s => ∃ (i7 : Nat), i7 ≤ m0.length ∧ k = m0.length - i7 ∧ F22_crossroadsref08_Eval_l1 t1 (m0.drop i7) = Z_1 ∧ s = ⟨[(0, .ro 12 (m0.map TClause.c)), (3, .ptr 0 0), (4, .ptr 1 0), (7, .int .i64 (i7 : Int))], [(0, .box (TRoute.c t1)), (1, .box [.int .u32 0, .int .i64 0, .int .i64 0, .int .i64 0, .int .u32 0])], 2⟩) m0.length ⟨⟨[(0, .ro 12 (m0.map TClause.c)), (3, .ptr 0 0), (4, .ptr 1 0), (7, .int .i64 (0 : Int))], [(0, .box (TRoute.c t1)), (1, .box [.int .u32 0, .int .i64 0, .int .i64 0, .int .i64 0, .int .u32 0])], 2⟩, Conv.keep [0, 1] [] [0, 3, 4, 7] rfl rfl (viewE_cons rfl rfl (viewE_cons rfl rfl (viewE_cons rfl rfl (viewE_cons rfl rfl viewE_nil)))) rfl rfl, 0, (by first | omega | ((try simp only [List.length_append, List.length_cons, List.length_nil] at *) <;> omega) | (have hlf := may03_len (by assumption) (by assumption); omega)), rfl, hZ_1, rfl⟩ ?_
  rintro _ _ ⟨i7, hi_1, rfl, hL_1, rfl⟩ again_1 out_1 Q_1 hagain_1 hout_1 hQ_1
  refine WK.seq ?_
  refine WK.seq ?_
  refine WK.regx mixed ?_
  refine GX.pure (v' := .int .i64 (i7 : Int)) rfl rfl rfl rfl rfl ?_
  refine GX.pure (v' := .ro 12 (m0.map TClause.c)) rfl rfl rfl rfl rfl ?_
  refine GX.pure (v' := .int .i64 (m0.length : Int)) rfl rfl rfl rfl (len_map _ _) ?_
  refine GX.pure (v' := .bool (decide ((i7 : Int) < (m0.length : Int)))) rfl rfl rfl rfl rfl ?_
  refine GX.done ?_
  rcases bool_two (decide ((i7 : Int) < (m0.length : Int))) with hb2 | hb2
  · rw [hb2]
    rw [drop_end hb2, F22_crossroadsref08_Eval_l1] at hL_1
    refine WK.condF rfl ?_
    refine WK.exit ?_
    refine QF.exit (hout_1 _ ?_)
    subst hL_1
    try dsimp only [cond_true, cond_false] at hR
    refine WK.seq ?_
    refine WK.regx mixed ?_
    refine GX.pure (v' := .agg [.int .u32 0, .int .i64 0, .int .i64 0, .int .i64 0, .int .u32 0]) rfl rfl rfl rfl rfl ?_
    refine GX.step0 (heap' := [(0, .box (TRoute.c t1)), (1, .box [.int .u32 0, .int .i64 0, .int .i64 0, .int .i64 0, .int .u32 0])]) (next' := 2) rfl rfl rfl rfl rfl ?_
    refine GX.pure (v' := .bool false) rfl rfl rfl rfl rfl ?_
    refine GX.pure (v' := .int .i64 0) rfl rfl rfl rfl rfl ?_
    refine GX.done ?_
    refine WK.ret ?_
    subst hR
    exact RetQ.fr [] (.inr rfl) rfl rfl rfl rfl
  · rw [hb2]
    obtain ⟨x7, hx1, hd1, hlt1⟩ := drop_more hb2
    rw [hd1, F22_crossroadsref08_Eval_l1] at hL_1
    refine WK.condT rfl ?_
    refine WK.skip ?_
    refine WK.seq ?_
    refine WK.blockK (fun _ hK3 => ?_)
    refine WK.seq ?_
    refine WK.drawn mixed ?_
    refine RD.pure (v' := .ro 12 (m0.map TClause.c)) rfl rfl rfl rfl rfl ?_
    refine RD.pure (v' := .int .i64 (i7 : Int)) rfl rfl rfl rfl rfl ?_
    refine RD.idxT (c := TClause.c) (x := x7) rfl rfl rfl (Int.natCast_nonneg _) hx1 ?_
    refine RD.pure (v' := .agg (TClause.c x7)) rfl rfl rfl rfl rfl ?_
    refine RD.pure (v' := .agg (TRoute.c t1)) rfl rfl rfl rfl rfl ?_
    generalize hc19 : F19_crossroadsref08_Matches x7 t1 = c19 at hL_1
    try dsimp only at hL_1
    refine RD.callp (r := .bool c19) rfl rfl rfl (f19_ok x7 t1 _ hc19) rfl rfl ?_
    refine RD.done rfl ?_
    rcases bool_two (c19) with hb4 | hb4
    · rw [hb4]; try simp only [hb4, cond_true, cond_false, Bool.true_and, Bool.false_and, Bool.true_or, Bool.false_or, Bool.not_true, Bool.not_false] at hL_1
      refine WK.condF rfl ?_
      refine WK.skip ?_
      refine WK.nil (QF.normal (hK3 _ ?_))
      refine WK.regx mixed ?_
      refine GX.pure (v' := .int .i64 (i7 : Int)) rfl rfl rfl rfl rfl ?_
      refine GX.pure (v' := .int .i64 ((i7 + 1 : Nat) : Int)) rfl rfl rfl rfl (congrArg (PVal.int .i64) (wrap_up hlt1 hlen_1)) ?_
      refine GX.pure (v' := .int .i64 ((i7 + 1 : Nat) : Int)) rfl rfl rfl rfl rfl ?_
      refine GX.done ?_
      refine WK.nil (QF.normal ?_)
      exact hagain_1 _ (m0.length - (i7 + 1)) ⟨[(0, .ro 12 (m0.map TClause.c)), (3, .ptr 0 0), (4, .ptr 1 0), (7, .int .i64 ((i7 + 1) : Int))], [(0, .box (TRoute.c t1)), (1, .box [.int .u32 0, .int .i64 0, .int .i64 0, .int .i64 0, .int .u32 0])], 2⟩ (by first | omega | ((try simp only [List.length_append, List.length_cons, List.length_nil] at *) <;> omega) | (have hlf := may03_len (by assumption) (by assumption); omega)) (Conv.keep [0, 1] [] [0, 3, 4, 7] rfl rfl (viewE_cons rfl rfl (viewE_cons rfl rfl (viewE_cons rfl rfl (viewE_cons rfl rfl viewE_nil)))) rfl rfl) ⟨i7 + 1, (by first | omega | ((try simp only [List.length_append, List.length_cons, List.length_nil] at *) <;> omega) | (have hlf := may03_len (by assumption) (by assumption); omega)), rfl, hL_1, rfl⟩
    · rw [hb4]; try simp only [hb4, cond_true, cond_false, Bool.true_and, Bool.false_and, Bool.true_or, Bool.false_or, Bool.not_true, Bool.not_false] at hL_1
      refine WK.condT rfl ?_
      refine WK.seq ?_
      refine WK.seq ?_
      refine WK.regx mixed ?_
      refine GX.pure (v' := .ro 12 (m0.map TClause.c)) rfl rfl rfl rfl rfl ?_
      refine GX.pure (v' := .int .i64 (i7 : Int)) rfl rfl rfl rfl rfl ?_
      refine GX.idxT (c := TClause.c) (x := x7) rfl rfl rfl (Int.natCast_nonneg _) hx1 ?_
      refine GX.pure (v' := .rptr [.bool x7.Permit, .ro 6 (x7.Listf.map TRule.c), .int .i64 x7.MKind, .int .i64 x7.MLow, .int .i64 x7.MHigh, .ro 1 (x7.MTags.map c_u32), .int .i64 x7.SCost, .int .i64 x7.SPlus, .int .i64 x7.SKind, .bool x7.SetTag, .int .u32 x7.STag]) rfl rfl rfl rfl rfl ?_
      refine GX.pure (v' := .bool x7.Permit) rfl rfl rfl rfl rfl ?_
      refine GX.done ?_
      rcases bool_two (x7.Permit) with hb5 | hb5
      · rw [hb5]; try simp only [hb5, cond_true, cond_false, Bool.true_and, Bool.false_and, Bool.true_or, Bool.false_or, Bool.not_true, Bool.not_false] at hL_1
        refine WK.condF rfl ?_
        refine WK.skip ?_
        refine WK.seq ?_
        refine WK.drawn mixed ?_
        refine RD.pure (v' := .agg [.int .u32 0, .int .i64 0, .int .i64 0, .int .i64 0, .int .u32 0]) rfl rfl rfl rfl rfl ?_
        refine RD.pure (v' := .ro 12 (m0.map TClause.c)) rfl rfl rfl rfl rfl ?_
        refine RD.pure (v' := .int .i64 (i7 : Int)) rfl rfl rfl rfl rfl ?_
        refine RD.idxT (c := TClause.c) (x := x7) rfl rfl rfl (Int.natCast_nonneg _) hx1 ?_
        refine RD.pure (v' := .rptr (TClause.c x7)) rfl rfl rfl rfl rfl ?_
        refine RD.pure (v' := .int .i64 x7.Seq) rfl rfl rfl rfl rfl ?_
        refine RD.step0 (heap' := [(0, .box (TRoute.c t1)), (1, .box [.int .u32 0, .int .i64 0, .int .i64 0, .int .i64 0, .int .u32 0])]) (next' := 2) rfl rfl rfl rfl rfl ?_
        refine RD.pure (v' := .bool false) rfl rfl rfl rfl rfl ?_
        refine RD.pure (v' := .int .i64 x7.Seq) rfl rfl rfl rfl rfl ?_
        refine RD.done rfl ?_
        refine WK.ret ?_
        refine QF.ret ?_
        refine QF.ret (hQ_1 _ _ ?_)
        subst hL_1
        subst hR
        exact RetQ.fr [] (.inr rfl) rfl rfl rfl rfl
      · rw [hb5]; try simp only [hb5, cond_true, cond_false, Bool.true_and, Bool.false_and, Bool.true_or, Bool.false_or, Bool.not_true, Bool.not_false] at hL_1
        refine WK.condT rfl ?_
        refine WK.seq ?_
        refine WK.drawn mixed ?_
        refine RD.pure (v' := .ro 12 (m0.map TClause.c)) rfl rfl rfl rfl rfl ?_
        refine RD.pure (v' := .int .i64 (i7 : Int)) rfl rfl rfl rfl rfl ?_
        refine RD.idxT (c := TClause.c) (x := x7) rfl rfl rfl (Int.natCast_nonneg _) hx1 ?_
        refine RD.pure (v' := .agg (TClause.c x7)) rfl rfl rfl rfl rfl ?_
        refine RD.pure (v' := .agg (TRoute.c t1)) rfl rfl rfl rfl rfl ?_
        generalize hc30 : F21_crossroadsref08_Change x7 t1 = c30 at hL_1
        try dsimp only at hL_1
        refine RD.callp (r := .agg [.int .u32 c30.P.A, .int .i64 c30.P.N, .int .i64 c30.Kind, .int .i64 c30.Cost, .int .u32 c30.Tag]) rfl rfl rfl (f21_ok x7 t1 _ hc30) rfl rfl ?_
        refine RD.pure (v' := .ro 12 (m0.map TClause.c)) rfl rfl rfl rfl rfl ?_
        refine RD.pure (v' := .int .i64 (i7 : Int)) rfl rfl rfl rfl rfl ?_
        refine RD.idxT (c := TClause.c) (x := x7) rfl rfl rfl (Int.natCast_nonneg _) hx1 ?_
        refine RD.pure (v' := .rptr (TClause.c x7)) rfl rfl rfl rfl rfl ?_
        refine RD.pure (v' := .int .i64 x7.Seq) rfl rfl rfl rfl rfl ?_
        refine RD.step0 (heap' := [(0, .box (TRoute.c t1)), (1, .box (TRoute.c c30))]) (next' := 2) rfl rfl rfl rfl rfl ?_
        refine RD.pure (v' := .bool true) rfl rfl rfl rfl rfl ?_
        refine RD.pure (v' := .int .i64 x7.Seq) rfl rfl rfl rfl rfl ?_
        refine RD.done rfl ?_
        refine WK.ret ?_
        refine QF.ret ?_
        refine QF.ret (hQ_1 _ _ ?_)
        subst hL_1
        subst hR
        exact RetQ.fr [] (.inr rfl) rfl rfl rfl rfl

theorem f23_ok (m0 : List TClause) (n1 : List TClause) (t2 : TRoute) (R : TRoute × Bool) (hR : F23_rmap_Then m0 n1 t2 = R) : FnOk Try.prog 23 [.ro 12 (m0.map TClause.c), .ro 12 (n1.map TClause.c), .agg (TRoute.c t2)] [] 0 (.tup [.agg (TRoute.c R.1), .bool R.2]) [] 0 := by
  refine FnOk.wk i23 rfl rfl ?_
  unfold F23_rmap_Then at hR
  change WK _ _ _ [ac23] _ ⟨[(0, .ro 12 (m0.map TClause.c)), (1, .ro 12 (n1.map TClause.c)), (2, .agg (TRoute.c t2))], [], 0⟩
  unfold ac23
  refine WK.seq ?_
  refine WK.regx mixed ?_
  refine GX.step (v' := .ptr 0 0) (heap' := [(0, .box (TRoute.c t2))]) (next' := 1) rfl rfl rfl rfl rfl rfl rfl ?_
  refine GX.step (v' := .ptr 1 0) (heap' := [(0, .box (TRoute.c t2)), (1, .box [.int .u32 0, .int .i64 0, .int .i64 0, .int .i64 0, .int .u32 0])]) (next' := 2) rfl rfl rfl rfl rfl rfl rfl ?_
  refine GX.pure (v' := .bool false) rfl rfl rfl rfl rfl ?_
  refine GX.done ?_
  refine WK.seq ?_
  refine WK.regx mixed ?_
  refine GX.pure (v' := .ro 12 (m0.map TClause.c)) rfl rfl rfl rfl rfl ?_
  refine GX.pure (v' := .agg (TRoute.c t2)) rfl rfl rfl rfl rfl ?_
  generalize hc16 : F13_rmap_Eval m0 t2 = c16 at hR
  obtain ⟨c16a, c16b, c16c⟩ := c16; try dsimp only at hR
  refine GX.callp (r := .tup [.agg [.int .u32 c16a.P.A, .int .i64 c16a.P.N, .int .i64 c16a.Kind, .int .i64 c16a.Cost, .int .u32 c16a.Tag], .bool c16b, .int .i64 c16c]) rfl rfl rfl (f13_ok m0 t2 _ hc16) rfl rfl ?_
  refine GX.pure (v' := .tup [.agg [.int .u32 c16a.P.A, .int .i64 c16a.P.N, .int .i64 c16a.Kind, .int .i64 c16a.Cost, .int .u32 c16a.Tag], .bool c16b, .int .i64 c16c]) rfl rfl rfl rfl rfl ?_
  refine GX.pure (v' := .agg [.int .u32 c16a.P.A, .int .i64 c16a.P.N, .int .i64 c16a.Kind, .int .i64 c16a.Cost, .int .u32 c16a.Tag]) rfl rfl rfl rfl rfl ?_
  refine GX.pure (v' := .bool c16b) rfl rfl rfl rfl rfl ?_
  refine GX.pure (v' := .int .i64 c16c) rfl rfl rfl rfl rfl ?_
  refine GX.step (v' := .ptr 2 0) (heap' := [(0, .box (TRoute.c t2)), (1, .box [.int .u32 0, .int .i64 0, .int .i64 0, .int .i64 0, .int .u32 0]), (2, .box [.int .u32 0, .int .i64 0, .int .i64 0, .int .i64 0, .int .u32 0])]) (next' := 3) rfl rfl rfl rfl rfl rfl rfl ?_
  refine GX.step0 (heap' := [(0, .box (TRoute.c t2)), (1, .box [.int .u32 0, .int .i64 0, .int .i64 0, .int .i64 0, .int .u32 0]), (2, .box (TRoute.c c16a))]) (next' := 3) rfl rfl rfl rfl rfl ?_
  refine GX.pure (v' := .bool c16b) rfl rfl rfl rfl rfl ?_
  refine GX.pure (v' := .int .i64 c16c) rfl rfl rfl rfl rfl ?_
  refine GX.done ?_
  refine WK.seq ?_
  refine WK.seq ?_
  refine WK.regx mixed ?_
  refine GX.pure (v' := .bool c16b) rfl rfl rfl rfl rfl ?_
  refine GX.pure (v' := .bool (!c16b)) rfl rfl rfl rfl rfl ?_
  refine GX.done ?_
  rcases bool_two (c16b) with hb1 | hb1
  · rw [hb1]; try simp only [hb1, cond_true, cond_false, Bool.true_and, Bool.false_and, Bool.true_or, Bool.false_or, Bool.not_true, Bool.not_false] at hR
    refine WK.condT rfl ?_
    refine WK.seq ?_
    refine WK.regx mixed ?_
    refine GX.pure (v' := .agg [.int .u32 0, .int .i64 0, .int .i64 0, .int .i64 0, .int .u32 0]) rfl rfl rfl rfl rfl ?_
    refine GX.step0 (heap' := [(0, .box (TRoute.c t2)), (1, .box [.int .u32 0, .int .i64 0, .int .i64 0, .int .i64 0, .int .u32 0]), (2, .box (TRoute.c c16a))]) (next' := 3) rfl rfl rfl rfl rfl ?_
    refine GX.pure (v' := .bool false) rfl rfl rfl rfl rfl ?_
    refine GX.done ?_
    refine WK.ret ?_
    subst hR
    exact RetQ.fr [] (.inr rfl) rfl rfl rfl rfl
  · rw [hb1]; try simp only [hb1, cond_true, cond_false, Bool.true_and, Bool.false_and, Bool.true_or, Bool.false_or, Bool.not_true, Bool.not_false] at hR
    refine WK.condF rfl ?_
    refine WK.skip ?_
    refine WK.seq ?_
    refine WK.regx mixed ?_
    refine GX.pure (v' := .ro 12 (n1.map TClause.c)) rfl rfl rfl rfl rfl ?_
    refine GX.pure (v' := .agg (TRoute.c c16a)) rfl rfl rfl rfl rfl ?_
    generalize hc26 : F13_rmap_Eval n1 c16a = c26 at hR
    obtain ⟨c26a, c26b, c26c⟩ := c26; try dsimp only at hR
    refine GX.callp (r := .tup [.agg [.int .u32 c26a.P.A, .int .i64 c26a.P.N, .int .i64 c26a.Kind, .int .i64 c26a.Cost, .int .u32 c26a.Tag], .bool c26b, .int .i64 c26c]) rfl rfl rfl (f13_ok n1 c16a _ hc26) rfl rfl ?_
    refine GX.pure (v' := .tup [.agg [.int .u32 c26a.P.A, .int .i64 c26a.P.N, .int .i64 c26a.Kind, .int .i64 c26a.Cost, .int .u32 c26a.Tag], .bool c26b, .int .i64 c26c]) rfl rfl rfl rfl rfl ?_
    refine GX.pure (v' := .agg [.int .u32 c26a.P.A, .int .i64 c26a.P.N, .int .i64 c26a.Kind, .int .i64 c26a.Cost, .int .u32 c26a.Tag]) rfl rfl rfl rfl rfl ?_
    refine GX.pure (v' := .bool c26b) rfl rfl rfl rfl rfl ?_
    refine GX.pure (v' := .int .i64 c26c) rfl rfl rfl rfl rfl ?_
    refine GX.step (v' := .ptr 3 0) (heap' := [(0, .box (TRoute.c t2)), (1, .box [.int .u32 0, .int .i64 0, .int .i64 0, .int .i64 0, .int .u32 0]), (2, .box (TRoute.c c16a)), (3, .box [.int .u32 0, .int .i64 0, .int .i64 0, .int .i64 0, .int .u32 0])]) (next' := 4) rfl rfl rfl rfl rfl rfl rfl ?_
    refine GX.step0 (heap' := [(0, .box (TRoute.c t2)), (1, .box [.int .u32 0, .int .i64 0, .int .i64 0, .int .i64 0, .int .u32 0]), (2, .box (TRoute.c c16a)), (3, .box (TRoute.c c26a))]) (next' := 4) rfl rfl rfl rfl rfl ?_
    refine GX.pure (v' := .bool c26b) rfl rfl rfl rfl rfl ?_
    refine GX.pure (v' := .int .i64 c26c) rfl rfl rfl rfl rfl ?_
    refine GX.done ?_
    refine WK.seq ?_
    refine WK.regx mixed ?_
    refine GX.pure (v' := .agg (TRoute.c c26a)) rfl rfl rfl rfl rfl ?_
    refine GX.pure (v' := .bool c26b) rfl rfl rfl rfl rfl ?_
    refine GX.step0 (heap' := [(0, .box (TRoute.c t2)), (1, .box (TRoute.c c26a)), (2, .box (TRoute.c c16a)), (3, .box (TRoute.c c26a))]) (next' := 4) rfl rfl rfl rfl rfl ?_
    refine GX.pure (v' := .bool c26b) rfl rfl rfl rfl rfl ?_
    refine GX.done ?_
    refine WK.ret ?_
    subst hR
    exact RetQ.fr [] (.inr rfl) rfl rfl rfl rfl

theorem f24_ok (m0 : List TClause) (n1 : List TClause) (t2 : TRoute) (R : TRoute × Bool) (hR : F24_crossroadsref08_Then m0 n1 t2 = R) : FnOk Try.prog 24 [.ro 12 (m0.map TClause.c), .ro 12 (n1.map TClause.c), .agg (TRoute.c t2)] [] 0 (.tup [.agg (TRoute.c R.1), .bool R.2]) [] 0 := by
  refine FnOk.wk i24 rfl rfl ?_
  unfold F24_crossroadsref08_Then at hR
  change WK _ _ _ [ac24] _ ⟨[(0, .ro 12 (m0.map TClause.c)), (1, .ro 12 (n1.map TClause.c)), (2, .agg (TRoute.c t2))], [], 0⟩
  unfold ac24
  refine WK.seq ?_
  refine WK.regx mixed ?_
  refine GX.step (v' := .ptr 0 0) (heap' := [(0, .box (TRoute.c t2))]) (next' := 1) rfl rfl rfl rfl rfl rfl rfl ?_
  refine GX.step (v' := .ptr 1 0) (heap' := [(0, .box (TRoute.c t2)), (1, .box [.int .u32 0, .int .i64 0, .int .i64 0, .int .i64 0, .int .u32 0])]) (next' := 2) rfl rfl rfl rfl rfl rfl rfl ?_
  refine GX.pure (v' := .bool false) rfl rfl rfl rfl rfl ?_
  refine GX.done ?_
  refine WK.seq ?_
  refine WK.regx mixed ?_
  refine GX.pure (v' := .ro 12 (m0.map TClause.c)) rfl rfl rfl rfl rfl ?_
  refine GX.pure (v' := .agg (TRoute.c t2)) rfl rfl rfl rfl rfl ?_
  generalize hc17 : F22_crossroadsref08_Eval m0 t2 = c17 at hR
  obtain ⟨c17a, c17b, c17c⟩ := c17; try dsimp only at hR
  refine GX.callp (r := .tup [.agg [.int .u32 c17a.P.A, .int .i64 c17a.P.N, .int .i64 c17a.Kind, .int .i64 c17a.Cost, .int .u32 c17a.Tag], .bool c17b, .int .i64 c17c]) rfl rfl rfl (f22_ok m0 t2 _ hc17) rfl rfl ?_
  refine GX.pure (v' := .tup [.agg [.int .u32 c17a.P.A, .int .i64 c17a.P.N, .int .i64 c17a.Kind, .int .i64 c17a.Cost, .int .u32 c17a.Tag], .bool c17b, .int .i64 c17c]) rfl rfl rfl rfl rfl ?_
  refine GX.pure (v' := .agg [.int .u32 c17a.P.A, .int .i64 c17a.P.N, .int .i64 c17a.Kind, .int .i64 c17a.Cost, .int .u32 c17a.Tag]) rfl rfl rfl rfl rfl ?_
  refine GX.pure (v' := .bool c17b) rfl rfl rfl rfl rfl ?_
  refine GX.pure (v' := .int .i64 c17c) rfl rfl rfl rfl rfl ?_
  refine GX.step (v' := .ptr 2 0) (heap' := [(0, .box (TRoute.c t2)), (1, .box [.int .u32 0, .int .i64 0, .int .i64 0, .int .i64 0, .int .u32 0]), (2, .box [.int .u32 0, .int .i64 0, .int .i64 0, .int .i64 0, .int .u32 0])]) (next' := 3) rfl rfl rfl rfl rfl rfl rfl ?_
  refine GX.step0 (heap' := [(0, .box (TRoute.c t2)), (1, .box [.int .u32 0, .int .i64 0, .int .i64 0, .int .i64 0, .int .u32 0]), (2, .box (TRoute.c c17a))]) (next' := 3) rfl rfl rfl rfl rfl ?_
  refine GX.pure (v' := .bool c17b) rfl rfl rfl rfl rfl ?_
  refine GX.pure (v' := .int .i64 c17c) rfl rfl rfl rfl rfl ?_
  refine GX.done ?_
  refine WK.seq ?_
  refine WK.seq ?_
  refine WK.regx mixed ?_
  refine GX.pure (v' := .bool c17b) rfl rfl rfl rfl rfl ?_
  refine GX.pure (v' := .bool (!c17b)) rfl rfl rfl rfl rfl ?_
  refine GX.done ?_
  rcases bool_two (c17b) with hb1 | hb1
  · rw [hb1]; try simp only [hb1, cond_true, cond_false, Bool.true_and, Bool.false_and, Bool.true_or, Bool.false_or, Bool.not_true, Bool.not_false] at hR
    refine WK.condT rfl ?_
    refine WK.seq ?_
    refine WK.regx mixed ?_
    refine GX.pure (v' := .agg [.int .u32 0, .int .i64 0, .int .i64 0, .int .i64 0, .int .u32 0]) rfl rfl rfl rfl rfl ?_
    refine GX.step0 (heap' := [(0, .box (TRoute.c t2)), (1, .box [.int .u32 0, .int .i64 0, .int .i64 0, .int .i64 0, .int .u32 0]), (2, .box (TRoute.c c17a))]) (next' := 3) rfl rfl rfl rfl rfl ?_
    refine GX.pure (v' := .bool false) rfl rfl rfl rfl rfl ?_
    refine GX.done ?_
    refine WK.ret ?_
    subst hR
    exact RetQ.fr [] (.inr rfl) rfl rfl rfl rfl
  · rw [hb1]; try simp only [hb1, cond_true, cond_false, Bool.true_and, Bool.false_and, Bool.true_or, Bool.false_or, Bool.not_true, Bool.not_false] at hR
    refine WK.condF rfl ?_
    refine WK.skip ?_
    refine WK.seq ?_
    refine WK.regx mixed ?_
    refine GX.pure (v' := .ro 12 (n1.map TClause.c)) rfl rfl rfl rfl rfl ?_
    refine GX.pure (v' := .agg (TRoute.c c17a)) rfl rfl rfl rfl rfl ?_
    generalize hc27 : F22_crossroadsref08_Eval n1 c17a = c27 at hR
    obtain ⟨c27a, c27b, c27c⟩ := c27; try dsimp only at hR
    refine GX.callp (r := .tup [.agg [.int .u32 c27a.P.A, .int .i64 c27a.P.N, .int .i64 c27a.Kind, .int .i64 c27a.Cost, .int .u32 c27a.Tag], .bool c27b, .int .i64 c27c]) rfl rfl rfl (f22_ok n1 c17a _ hc27) rfl rfl ?_
    refine GX.pure (v' := .tup [.agg [.int .u32 c27a.P.A, .int .i64 c27a.P.N, .int .i64 c27a.Kind, .int .i64 c27a.Cost, .int .u32 c27a.Tag], .bool c27b, .int .i64 c27c]) rfl rfl rfl rfl rfl ?_
    refine GX.pure (v' := .agg [.int .u32 c27a.P.A, .int .i64 c27a.P.N, .int .i64 c27a.Kind, .int .i64 c27a.Cost, .int .u32 c27a.Tag]) rfl rfl rfl rfl rfl ?_
    refine GX.pure (v' := .bool c27b) rfl rfl rfl rfl rfl ?_
    refine GX.pure (v' := .int .i64 c27c) rfl rfl rfl rfl rfl ?_
    refine GX.step (v' := .ptr 3 0) (heap' := [(0, .box (TRoute.c t2)), (1, .box [.int .u32 0, .int .i64 0, .int .i64 0, .int .i64 0, .int .u32 0]), (2, .box (TRoute.c c17a)), (3, .box [.int .u32 0, .int .i64 0, .int .i64 0, .int .i64 0, .int .u32 0])]) (next' := 4) rfl rfl rfl rfl rfl rfl rfl ?_
    refine GX.step0 (heap' := [(0, .box (TRoute.c t2)), (1, .box [.int .u32 0, .int .i64 0, .int .i64 0, .int .i64 0, .int .u32 0]), (2, .box (TRoute.c c17a)), (3, .box (TRoute.c c27a))]) (next' := 4) rfl rfl rfl rfl rfl ?_
    refine GX.pure (v' := .bool c27b) rfl rfl rfl rfl rfl ?_
    refine GX.pure (v' := .int .i64 c27c) rfl rfl rfl rfl rfl ?_
    refine GX.done ?_
    refine WK.seq ?_
    refine WK.regx mixed ?_
    refine GX.pure (v' := .agg (TRoute.c c27a)) rfl rfl rfl rfl rfl ?_
    refine GX.pure (v' := .bool c27b) rfl rfl rfl rfl rfl ?_
    refine GX.step0 (heap' := [(0, .box (TRoute.c t2)), (1, .box (TRoute.c c27a)), (2, .box (TRoute.c c17a)), (3, .box (TRoute.c c27a))]) (next' := 4) rfl rfl rfl rfl rfl ?_
    refine GX.pure (v' := .bool c27b) rfl rfl rfl rfl rfl ?_
    refine GX.done ?_
    refine WK.ret ?_
    subst hR
    exact RetQ.fr [] (.inr rfl) rfl rfl rfl rfl

end Go.Proofs.Ytagiapphmkdnmaa.Abs
