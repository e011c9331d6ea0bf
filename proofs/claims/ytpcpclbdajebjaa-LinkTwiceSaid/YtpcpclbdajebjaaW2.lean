/- The functions walked: each computes its Lean function (printed by this work's own program gen.py). -/
import Derived.Test.YtpcpclbdajebjaaSz
import Derived.Test.YtpcpclbdajebjaaW1
set_option linter.unusedVariables false
set_option linter.unusedSimpArgs false
set_option maxRecDepth 10000
set_option maxHeartbeats 4000000
namespace Go.Proofs.Ytpcpclbdajebjaa.Abs
open Go

theorem f18_ok (b0 : TBase) (x1 : TList) (hp0 : SmB b0) (hp1 : x1.L.length ≤ 1000) (R : (List Int) × (List TEntry)) (hR : F18_link_Differ b0 x1 = R) : FnOk Try.prog 18 [.agg (TBase.c b0), .agg (TList.c x1)] [] 0 (.tup [.ro 1 (R.1.map c_u64), .ro 4 (R.2.map TEntry.c)]) [] 0 := by
 refine FnOk.wk i18 rfl rfl ?_
 unfold F18_link_Differ at hR
 change WK _ _ _ [ac18] _ ⟨[(0, .agg (TBase.c b0)), (1, .agg (TList.c x1))], [], 0⟩
 unfold ac18
 refine WK.sr mixed ?_
 refine GX.step (v' := .ptr 0 0) (heap' := [(0, .box (TBase.c b0))]) (next' := 1) rfl rfl rfl rfl rfl rfl rfl ?_
 refine GX.step (v' := .ptr 1 0) (heap' := [(0, .box (TBase.c b0)), (1, .box (TList.c x1))]) (next' := 2) rfl rfl rfl rfl rfl rfl rfl ?_
 refine GX.m rfl ?_
 refine GX.m rfl ?_
 refine GX.done ?_
 refine WK.sr mixed ?_
 refine GX.step (v' := .mapr 2) (heap' := [(0, .box (TBase.c b0)), (1, .box (TList.c x1)), (2, .mp (([] : List (Int × TEntry)).map (encM .u64 (fun y => .agg (TEntry.c y)))))]) (next' := 3) rfl rfl rfl rfl rfl rfl rfl ?_
 refine GX.m rfl ?_
 refine GX.done ?_
 refine WK.sr mixed ?_
 refine GX.m rfl ?_
 refine GX.done ?_
 refine WK.seq ?_
 refine WK.sr mixed ?_
 refine GX.q (.ptr 1 5) ?_
 refine GX.q (.ro 4 (x1.L.map TEntry.c)) ?_
 refine GX.pure (v' := .int .i64 (x1.L.length : Int)) rfl rfl rfl rfl (len_map _ _) ?_
 refine GX.m rfl ?_
 refine GX.done ?_
 refine WK.adopt (t := 7) (sz := 4) (ty := 25) (heap' := [(0, .box (TBase.c b0)), (1, .box (TList.c x1)), (2, .mp (([] : List (Int × TEntry)).map (encM .u64 (fun y => .agg (TEntry.c y))))), (3, .row 4 25 (([] : List TEntry).map TEntry.c))]) rfl (by decide) (by simp) rfl ?_
 refine WK.len (t := 23) rfl (by simp) (fun hlen_57 => ?_)
 rw [List.length_map] at hlen_57
 generalize hZ_57 : F18_link_Differ_l3 b0 ([] : List (Int × TEntry)) ([] : List TEntry) x1.L = Z_57 at hR
 refine WK.forK (fun k s => ∃ (i25 : Nat) (told6 : List (Int × TEntry)) (ask7 : List TEntry), i25 ≤ x1.L.length ∧ k = x1.L.length - i25 ∧ ask7.length ≤ i25 + 0 ∧ F18_link_Differ_l3 b0 told6 ask7 (x1.L.drop i25) = Z_57 ∧ s = ⟨[(2, .ptr 0 0), (3, .ptr 1 0), (6, .mapr 2), (7, .own 3 4 0 ask7.length), (23, .ro 4 (x1.L.map TEntry.c)), (24, .int .i64 (x1.L.length : Int)), (25, .int .i64 (i25 : Int))], [(0, .box (TBase.c b0)), (1, .box (TList.c x1)), (2, .mp (told6.map (encM .u64 (fun y => .agg (TEntry.c y))))), (3, .row 4 25 (ask7.map TEntry.c))], 4⟩) x1.L.length ⟨⟨[(2, .ptr 0 0), (3, .ptr 1 0), (6, .mapr 2), (7, .own 3 4 0 ([] : List TEntry).length), (23, .ro 4 (x1.L.map TEntry.c)), (24, .int .i64 (x1.L.length : Int)), (25, .int .i64 (0 : Int))], [(0, .box (TBase.c b0)), (1, .box (TList.c x1)), (2, .mp (([] : List (Int × TEntry)).map (encM .u64 (fun y => .agg (TEntry.c y))))), (3, .row 4 25 (([] : List TEntry).map TEntry.c))], 4⟩, Conv.keep [0, 1, 2, 3] [] [2, 3, 6, 7, 23, 24, 25] rfl rfl (viewE_cons rfl rfl (viewE_cons rfl rfl (viewE_cons rfl rfl (viewE_cons rfl rfl (viewE_cons rfl rfl (viewE_cons rfl rfl (viewE_cons rfl rfl viewE_nil))))))) rfl rfl, 0, ([] : List (Int × TEntry)), ([] : List TEntry), (by omega), rfl, (by ((try simp only [List.length_append, List.length_cons, List.length_nil, decide_eq_true_eq, decide_eq_false_iff_not] at *) <;> first | omega | (rw [wrap64_of (by omega) (by omega)]; omega))), hZ_57, rfl⟩ ?_
 rintro _ _ ⟨i25, told6, ask7, hi_57, rfl, hinv57_ask7, hL_57, rfl⟩ again_57 out_57 Q_57 hagain_57 hout_57 hQ_57
 refine WK.sr mixed ?_
 refine GX.q (.bool (decide ((i25 : Int) < (x1.L.length : Int)))) ?_
 refine GX.done ?_
 refine WK.seq ?_
 rcases bool_two (decide ((i25 : Int) < (x1.L.length : Int))) with hb58 | hb58
 ·rw [hb58]
  rw [drop_end hb58, F18_link_Differ_l3] at hL_57
  refine WK.condF rfl ?_
  refine WK.exit ?_
  refine QF.exit (hout_57 _ ?_)
  subst hL_57
  try dsimp only [cond_true, cond_false] at hR
  refine WK.sr mixed ?_
  refine GX.m rfl ?_
  refine GX.done ?_
  refine WK.seq ?_
  refine WK.sr mixed ?_
  refine GX.q (.agg (TBase.c b0)) ?_
  generalize hc73 : F17_link_List b0 0 18446744073709551615 = c73 at hR
  have hpo0_c73 := post_List1 b0 0 18446744073709551615 (by omega); rw [hc73] at hpo0_c73
  try dsimp only at hR
  refine GX.callp (r := .ro 4 (c73.map TEntry.c)) rfl rfl rfl (f17_ok b0 0 18446744073709551615 (by omega) _ hc73) rfl rfl ?_
  refine GX.pure (v' := .int .i64 (c73.length : Int)) rfl rfl rfl rfl (len_map _ _) ?_
  refine GX.m rfl ?_
  refine GX.done ?_
  refine WK.adopt (t := 15) (sz := 1) (ty := 22) (heap' := [(0, .box (TBase.c b0)), (1, .box (TList.c x1)), (2, .mp (told6.map (encM .u64 (fun y => .agg (TEntry.c y))))), (3, .row 4 25 (ask7.map TEntry.c)), (4, .row 1 22 (([] : List Int).map c_u64))]) rfl (by decide) (by simp) rfl ?_
  refine WK.len (t := 73) rfl (by simp) (fun hlen_73 => ?_)
  rw [List.length_map] at hlen_73
  generalize hZ_73 : F18_link_Differ_l2 x1 told6 ([] : List Int) c73 = Z_73 at hR
  refine WK.forK (fun k s => ∃ (i75 : Nat) (send15 : List Int), i75 ≤ c73.length ∧ k = c73.length - i75 ∧ send15.length ≤ i75 + 0 ∧ F18_link_Differ_l2 x1 told6 send15 (c73.drop i75) = Z_73 ∧ s = ⟨[(3, .ptr 0 0), (6, .mapr 1), (7, .own 2 4 0 ask7.length), (15, .own 3 1 0 send15.length), (73, .ro 4 (c73.map TEntry.c)), (74, .int .i64 (c73.length : Int)), (75, .int .i64 (i75 : Int))], [(0, .box (TList.c x1)), (1, .mp (told6.map (encM .u64 (fun y => .agg (TEntry.c y))))), (2, .row 4 25 (ask7.map TEntry.c)), (3, .row 1 22 (send15.map c_u64))], 4⟩) c73.length ⟨⟨[(3, .ptr 0 0), (6, .mapr 1), (7, .own 2 4 0 ask7.length), (15, .own 3 1 0 ([] : List Int).length), (73, .ro 4 (c73.map TEntry.c)), (74, .int .i64 (c73.length : Int)), (75, .int .i64 (0 : Int))], [(0, .box (TList.c x1)), (1, .mp (told6.map (encM .u64 (fun y => .agg (TEntry.c y))))), (2, .row 4 25 (ask7.map TEntry.c)), (3, .row 1 22 (([] : List Int).map c_u64))], 4⟩, Conv.keep [1, 2, 3, 4] [] [3, 6, 7, 15, 73, 74, 75] rfl rfl (viewE_cons rfl rfl (viewE_cons rfl rfl (viewE_cons rfl rfl (viewE_cons rfl rfl (viewE_cons rfl rfl (viewE_cons rfl rfl (viewE_cons rfl rfl viewE_nil))))))) rfl rfl, 0, ([] : List Int), (by omega), rfl, (by ((try simp only [List.length_append, List.length_cons, List.length_nil, decide_eq_true_eq, decide_eq_false_iff_not] at *) <;> first | omega | (rw [wrap64_of (by omega) (by omega)]; omega))), hZ_73, rfl⟩ ?_
  rintro _ _ ⟨i75, send15, hi_73, rfl, hinv73_send15, hL_73, rfl⟩ again_73 out_73 Q_73 hagain_73 hout_73 hQ_73
  refine WK.sr mixed ?_
  refine GX.q (.bool (decide ((i75 : Int) < (c73.length : Int)))) ?_
  refine GX.done ?_
  refine WK.seq ?_
  rcases bool_two (decide ((i75 : Int) < (c73.length : Int))) with hb74 | hb74
  ·rw [hb74]
   rw [drop_end hb74, F18_link_Differ_l2] at hL_73
   refine WK.condF rfl ?_
   refine WK.exit ?_
   refine QF.exit (hout_73 _ ?_)
   subst hL_73
   try dsimp only [cond_true, cond_false] at hR
   refine WK.sr mixed ?_
   refine GX.m rfl ?_
   refine GX.m rfl ?_
   refine GX.m rfl ?_
   refine GX.m rfl ?_
   refine GX.done ?_
   refine WK.ret ?_
   subst hR
   exact RetQ.fr [3, 2] (.inr rfl) rfl rfl (viewGo_cons (view_rowT rfl rfl) (viewGo_cons (view_rowT rfl rfl) viewGo_nil)) rfl
  ·rw [hb74]
   obtain ⟨x75, hx73, hd73, hlt73⟩ := drop_more hb74
   rw [hd73, F18_link_Differ_l2] at hL_73
   refine WK.condT rfl ?_
   refine WK.skip ?_
   refine WK.seq ?_
   refine WK.blockK (fun _ hK75 => ?_)
   refine WK.sr mixed ?_
   refine GX.idxT (c := TEntry.c) (x := x75) rfl rfl rfl (Int.natCast_nonneg _) hx73 ?_
   refine GX.q (.agg (TEntry.c x75)) ?_
   refine GX.step (v' := .ptr 4 0) (heap' := [(0, .box (TList.c x1)), (1, .mp (told6.map (encM .u64 (fun y => .agg (TEntry.c y))))), (2, .row 4 25 (ask7.map TEntry.c)), (3, .row 1 22 (send15.map c_u64)), (4, .box [.int .i64 0, .int .u64 0, .int .u32 0, .int .i64 0])]) (next' := 5) rfl rfl rfl rfl rfl rfl rfl ?_
   refine GX.step0 (heap' := [(0, .box (TList.c x1)), (1, .mp (told6.map (encM .u64 (fun y => .agg (TEntry.c y))))), (2, .row 4 25 (ask7.map TEntry.c)), (3, .row 1 22 (send15.map c_u64)), (4, .box (TEntry.c x75))]) (next' := 5) rfl rfl rfl rfl rfl ?_
   refine GX.done ?_
   refine WK.sr mixed ?_
   refine GX.m rfl ?_
   refine GX.q (.ptr 4 1) ?_
   refine GX.q (.int .u64 x75.ID) ?_
   refine GX.pure (v' := .tup [.agg [.int .i64 (((findM told6 x75.ID).getD (⟨0, 0, 0, 0⟩ : TEntry)).Life), .int .u64 (((findM told6 x75.ID).getD (⟨0, 0, 0, 0⟩ : TEntry)).ID), .int .u32 (((findM told6 x75.ID).getD (⟨0, 0, 0, 0⟩ : TEntry)).Seq), .int .i64 (((findM told6 x75.ID).getD (⟨0, 0, 0, 0⟩ : TEntry)).Sum)], .bool ((findM told6 x75.ID).isSome)]) rfl rfl rfl (core_lookM2 (e := (fun y => .agg (TEntry.c y))) (z0 := (⟨0, 0, 0, 0⟩ : TEntry)) rfl rfl) rfl ?_
   refine GX.m rfl ?_
   refine GX.q (.agg [.int .i64 (((findM told6 x75.ID).getD (⟨0, 0, 0, 0⟩ : TEntry)).Life), .int .u64 (((findM told6 x75.ID).getD (⟨0, 0, 0, 0⟩ : TEntry)).ID), .int .u32 (((findM told6 x75.ID).getD (⟨0, 0, 0, 0⟩ : TEntry)).Seq), .int .i64 (((findM told6 x75.ID).getD (⟨0, 0, 0, 0⟩ : TEntry)).Sum)]) ?_
   refine GX.q (.bool ((findM told6 x75.ID).isSome)) ?_
   refine GX.step (v' := .ptr 5 0) (heap' := [(0, .box (TList.c x1)), (1, .mp (told6.map (encM .u64 (fun y => .agg (TEntry.c y))))), (2, .row 4 25 (ask7.map TEntry.c)), (3, .row 1 22 (send15.map c_u64)), (4, .box (TEntry.c x75)), (5, .box [.int .i64 0, .int .u64 0, .int .u32 0, .int .i64 0])]) (next' := 6) rfl rfl rfl rfl rfl rfl rfl ?_
   refine GX.step0 (heap' := [(0, .box (TList.c x1)), (1, .mp (told6.map (encM .u64 (fun y => .agg (TEntry.c y))))), (2, .row 4 25 (ask7.map TEntry.c)), (3, .row 1 22 (send15.map c_u64)), (4, .box (TEntry.c x75)), (5, .box [.int .i64 (((findM told6 x75.ID).getD (⟨0, 0, 0, 0⟩ : TEntry)).Life), .int .u64 (((findM told6 x75.ID).getD (⟨0, 0, 0, 0⟩ : TEntry)).ID), .int .u32 (((findM told6 x75.ID).getD (⟨0, 0, 0, 0⟩ : TEntry)).Seq), .int .i64 (((findM told6 x75.ID).getD (⟨0, 0, 0, 0⟩ : TEntry)).Sum)])]) (next' := 6) rfl rfl rfl rfl rfl ?_
   refine GX.m rfl ?_
   refine GX.done ?_
   refine WK.sr mixed ?_
   refine GX.m rfl ?_
   refine GX.q (.bool (!((findM told6 x75.ID).isSome))) ?_
   refine GX.m rfl ?_
   rcases bool_two ((findM told6 x75.ID).isSome) with hb76 | hb76
   ·rw [hb76]; try simp only [hb76, cond_true, cond_false, Bool.true_and, Bool.false_and, Bool.true_or, Bool.false_or, Bool.not_true, Bool.not_false] at hL_73
    refine GX.q (.ptr 0 1) ?_
    refine GX.q (.bool x1.Whole) ?_
    refine GX.q (.bool x1.Whole) ?_
    refine GX.m rfl ?_
    rcases bool_two (x1.Whole) with hb77 | hb77
    ·rw [hb77]; try simp only [hb77, cond_true, cond_false, Bool.true_and, Bool.false_and, Bool.true_or, Bool.false_or, Bool.not_true, Bool.not_false] at hL_73
     refine GX.skip rfl rfl ?_
     refine GX.skip rfl rfl ?_
     refine GX.skip rfl rfl ?_
     refine GX.skip rfl rfl ?_
     refine GX.skip rfl rfl ?_
     refine GX.q (.bool false) ?_
     refine GX.m rfl ?_
     refine GX.skip rfl rfl ?_
     refine GX.skip rfl rfl ?_
     refine GX.skip rfl rfl ?_
     refine GX.skip rfl rfl ?_
     refine GX.skip rfl rfl ?_
     refine GX.q (.bool false) ?_
     refine GX.m rfl ?_
     refine GX.done ?_
     refine WK.sr mixed ?_
     refine GX.m rfl ?_
     refine GX.m rfl ?_
     refine GX.m rfl ?_
     refine GX.m rfl ?_
     refine GX.skip rfl rfl ?_
     refine GX.skip rfl rfl ?_
     refine GX.skip rfl rfl ?_
     refine GX.skip rfl rfl ?_
     refine GX.q (.bool false) ?_
     refine GX.q (.bool false) ?_
     refine GX.done ?_
     refine WK.condF rfl ?_
     refine WK.skip ?_
     refine WK.nil (QF.normal (hK75 _ ?_))
     refine WK.regx mixed ?_
     refine GX.pure (v' := .int .i64 ((i75 + 1 : Nat) : Int)) rfl rfl rfl rfl (congrArg (PVal.int .i64) (wrap_up hlt73 hlen_73)) ?_
     refine GX.m rfl ?_
     refine GX.done ?_
     refine WK.nil (QF.normal ?_)
     exact hagain_73 _ (c73.length - (i75 + 1)) ⟨[(3, .ptr 0 0), (6, .mapr 1), (7, .own 2 4 0 ask7.length), (15, .own 3 1 0 send15.length), (73, .ro 4 (c73.map TEntry.c)), (74, .int .i64 (c73.length : Int)), (75, .int .i64 ((i75 + 1) : Int))], [(0, .box (TList.c x1)), (1, .mp (told6.map (encM .u64 (fun y => .agg (TEntry.c y))))), (2, .row 4 25 (ask7.map TEntry.c)), (3, .row 1 22 (send15.map c_u64))], 4⟩ (by omega) (Conv.keep [0, 1, 2, 3] [] [3, 6, 7, 15, 73, 74, 75] rfl rfl (viewE_cons rfl rfl (viewE_cons rfl rfl (viewE_cons rfl rfl (viewE_cons rfl rfl (viewE_cons rfl rfl (viewE_cons rfl rfl (viewE_cons rfl rfl viewE_nil))))))) rfl rfl) ⟨i75 + 1, send15, (by omega), rfl, (by omega), hL_73, rfl⟩
    ·rw [hb77]; try simp only [hb77, cond_true, cond_false, Bool.true_and, Bool.false_and, Bool.true_or, Bool.false_or, Bool.not_true, Bool.not_false] at hL_73
     refine GX.q (.ptr 4 1) ?_
     refine GX.q (.int .u64 x75.ID) ?_
     refine GX.q (.ptr 0 3) ?_
     refine GX.q (.int .u64 x1.Low) ?_
     refine GX.q (.bool (decide (x1.Low ≤ x75.ID))) ?_
     refine GX.q (.bool (decide (x1.Low ≤ x75.ID))) ?_
     refine GX.m rfl ?_
     rcases bool_two (decide (x1.Low ≤ x75.ID)) with hb78 | hb78
     ·rw [hb78]; try simp only [hb78, cond_true, cond_false, Bool.true_and, Bool.false_and, Bool.true_or, Bool.false_or, Bool.not_true, Bool.not_false] at hL_73
      refine GX.skip rfl rfl ?_
      refine GX.skip rfl rfl ?_
      refine GX.skip rfl rfl ?_
      refine GX.skip rfl rfl ?_
      refine GX.skip rfl rfl ?_
      refine GX.q (.bool false) ?_
      refine GX.m rfl ?_
      refine GX.done ?_
      refine WK.sr mixed ?_
      refine GX.m rfl ?_
      refine GX.m rfl ?_
      refine GX.m rfl ?_
      refine GX.m rfl ?_
      refine GX.skip rfl rfl ?_
      refine GX.skip rfl rfl ?_
      refine GX.skip rfl rfl ?_
      refine GX.skip rfl rfl ?_
      refine GX.q (.bool false) ?_
      refine GX.q (.bool false) ?_
      refine GX.done ?_
      refine WK.condF rfl ?_
      refine WK.skip ?_
      refine WK.nil (QF.normal (hK75 _ ?_))
      refine WK.regx mixed ?_
      refine GX.pure (v' := .int .i64 ((i75 + 1 : Nat) : Int)) rfl rfl rfl rfl (congrArg (PVal.int .i64) (wrap_up hlt73 hlen_73)) ?_
      refine GX.m rfl ?_
      refine GX.done ?_
      refine WK.nil (QF.normal ?_)
      exact hagain_73 _ (c73.length - (i75 + 1)) ⟨[(3, .ptr 0 0), (6, .mapr 1), (7, .own 2 4 0 ask7.length), (15, .own 3 1 0 send15.length), (73, .ro 4 (c73.map TEntry.c)), (74, .int .i64 (c73.length : Int)), (75, .int .i64 ((i75 + 1) : Int))], [(0, .box (TList.c x1)), (1, .mp (told6.map (encM .u64 (fun y => .agg (TEntry.c y))))), (2, .row 4 25 (ask7.map TEntry.c)), (3, .row 1 22 (send15.map c_u64))], 4⟩ (by omega) (Conv.keep [0, 1, 2, 3] [] [3, 6, 7, 15, 73, 74, 75] rfl rfl (viewE_cons rfl rfl (viewE_cons rfl rfl (viewE_cons rfl rfl (viewE_cons rfl rfl (viewE_cons rfl rfl (viewE_cons rfl rfl (viewE_cons rfl rfl viewE_nil))))))) rfl rfl) ⟨i75 + 1, send15, (by omega), rfl, (by omega), hL_73, rfl⟩
     ·rw [hb78]; try simp only [hb78, cond_true, cond_false, Bool.true_and, Bool.false_and, Bool.true_or, Bool.false_or, Bool.not_true, Bool.not_false] at hL_73
      refine GX.q (.ptr 4 1) ?_
      refine GX.q (.int .u64 x75.ID) ?_
      refine GX.q (.ptr 0 4) ?_
      refine GX.q (.int .u64 x1.High) ?_
      refine GX.q (.bool (decide (x75.ID ≤ x1.High))) ?_
      refine GX.q (.bool (decide (x75.ID ≤ x1.High))) ?_
      refine GX.m rfl ?_
      refine GX.done ?_
      refine WK.sr mixed ?_
      refine GX.m rfl ?_
      refine GX.m rfl ?_
      rcases bool_two (decide (x75.ID ≤ x1.High)) with hb79 | hb79
      ·rw [hb79]; try simp only [hb79, cond_true, cond_false, Bool.true_and, Bool.false_and, Bool.true_or, Bool.false_or, Bool.not_true, Bool.not_false] at hL_73
       refine GX.m rfl ?_
       refine GX.m rfl ?_
       refine GX.skip rfl rfl ?_
       refine GX.skip rfl rfl ?_
       refine GX.skip rfl rfl ?_
       refine GX.skip rfl rfl ?_
       refine GX.q (.bool false) ?_
       refine GX.q (.bool false) ?_
       refine GX.done ?_
       refine WK.condF rfl ?_
       refine WK.skip ?_
       refine WK.nil (QF.normal (hK75 _ ?_))
       refine WK.regx mixed ?_
       refine GX.pure (v' := .int .i64 ((i75 + 1 : Nat) : Int)) rfl rfl rfl rfl (congrArg (PVal.int .i64) (wrap_up hlt73 hlen_73)) ?_
       refine GX.m rfl ?_
       refine GX.done ?_
       refine WK.nil (QF.normal ?_)
       exact hagain_73 _ (c73.length - (i75 + 1)) ⟨[(3, .ptr 0 0), (6, .mapr 1), (7, .own 2 4 0 ask7.length), (15, .own 3 1 0 send15.length), (73, .ro 4 (c73.map TEntry.c)), (74, .int .i64 (c73.length : Int)), (75, .int .i64 ((i75 + 1) : Int))], [(0, .box (TList.c x1)), (1, .mp (told6.map (encM .u64 (fun y => .agg (TEntry.c y))))), (2, .row 4 25 (ask7.map TEntry.c)), (3, .row 1 22 (send15.map c_u64))], 4⟩ (by omega) (Conv.keep [0, 1, 2, 3] [] [3, 6, 7, 15, 73, 74, 75] rfl rfl (viewE_cons rfl rfl (viewE_cons rfl rfl (viewE_cons rfl rfl (viewE_cons rfl rfl (viewE_cons rfl rfl (viewE_cons rfl rfl (viewE_cons rfl rfl viewE_nil))))))) rfl rfl) ⟨i75 + 1, send15, (by omega), rfl, (by omega), hL_73, rfl⟩
      ·rw [hb79]; try simp only [hb79, cond_true, cond_false, Bool.true_and, Bool.false_and, Bool.true_or, Bool.false_or, Bool.not_true, Bool.not_false] at hL_73
       refine GX.skip rfl rfl ?_
       refine GX.skip rfl rfl ?_
       refine GX.skip rfl rfl ?_
       refine GX.skip rfl rfl ?_
       refine GX.skip rfl rfl ?_
       refine GX.skip rfl rfl ?_
       refine GX.skip rfl rfl ?_
       refine GX.q (.bool true) ?_
       refine GX.done ?_
       refine WK.condT rfl ?_
       refine WK.regx mixed ?_
       refine GX.m rfl ?_
       refine GX.q (.ptr 4 1) ?_
       refine GX.q (.int .u64 x75.ID) ?_
       refine GX.step (v' := .own 6 1 0 (([x75.ID] : List Int)).length) (heap' := [(0, .box (TList.c x1)), (1, .mp (told6.map (encM .u64 (fun y => .agg (TEntry.c y))))), (2, .row 4 25 (ask7.map TEntry.c)), (3, .row 1 22 (send15.map c_u64)), (4, .box (TEntry.c x75)), (5, .box [.int .i64 (((findM told6 x75.ID).getD (⟨0, 0, 0, 0⟩ : TEntry)).Life), .int .u64 (((findM told6 x75.ID).getD (⟨0, 0, 0, 0⟩ : TEntry)).ID), .int .u32 (((findM told6 x75.ID).getD (⟨0, 0, 0, 0⟩ : TEntry)).Seq), .int .i64 (((findM told6 x75.ID).getD (⟨0, 0, 0, 0⟩ : TEntry)).Sum)]), (6, .row 1 22 (([x75.ID] : List Int).map c_u64))]) (next' := 7) rfl rfl rfl rfl rfl rfl rfl ?_
       refine GX.appT (c := c_u64) (L := send15) (X := ([x75.ID] : List Int)) (heap' := [(0, .box (TList.c x1)), (1, .mp (told6.map (encM .u64 (fun y => .agg (TEntry.c y))))), (2, .row 4 25 (ask7.map TEntry.c)), (4, .box (TEntry.c x75)), (5, .box [.int .i64 (((findM told6 x75.ID).getD (⟨0, 0, 0, 0⟩ : TEntry)).Life), .int .u64 (((findM told6 x75.ID).getD (⟨0, 0, 0, 0⟩ : TEntry)).ID), .int .u32 (((findM told6 x75.ID).getD (⟨0, 0, 0, 0⟩ : TEntry)).Seq), .int .i64 (((findM told6 x75.ID).getD (⟨0, 0, 0, 0⟩ : TEntry)).Sum)]), (6, .row 1 22 (([x75.ID] : List Int).map c_u64)), (7, .row 1 22 ((send15 ++ ([x75.ID] : List Int)).map c_u64))]) (next' := 8) rfl rfl rfl rfl (elems_own rfl) (by ((try simp only [List.length_append, List.length_cons, List.length_nil, List.length_map, decide_eq_true_eq, decide_eq_false_iff_not] at *) <;> omega)) (by ((try simp only [List.length_append, List.length_cons, List.length_nil, List.length_map, decide_eq_true_eq, decide_eq_false_iff_not] at *) <;> omega)) rfl rfl rfl rfl ?_
       refine GX.m rfl ?_
       refine GX.done ?_
       refine WK.nil (QF.normal (hK75 _ ?_))
       refine WK.regx mixed ?_
       refine GX.pure (v' := .int .i64 ((i75 + 1 : Nat) : Int)) rfl rfl rfl rfl (congrArg (PVal.int .i64) (wrap_up hlt73 hlen_73)) ?_
       refine GX.m rfl ?_
       refine GX.done ?_
       refine WK.nil (QF.normal ?_)
       exact hagain_73 _ (c73.length - (i75 + 1)) ⟨[(3, .ptr 0 0), (6, .mapr 1), (7, .own 2 4 0 ask7.length), (15, .own 3 1 0 (send15 ++ ([x75.ID] : List Int)).length), (73, .ro 4 (c73.map TEntry.c)), (74, .int .i64 (c73.length : Int)), (75, .int .i64 ((i75 + 1) : Int))], [(0, .box (TList.c x1)), (1, .mp (told6.map (encM .u64 (fun y => .agg (TEntry.c y))))), (2, .row 4 25 (ask7.map TEntry.c)), (3, .row 1 22 ((send15 ++ ([x75.ID] : List Int)).map c_u64))], 4⟩ (by omega) (Conv.keep [0, 1, 2, 7] [] [3, 6, 7, 15, 73, 74, 75] rfl rfl (viewE_cons rfl rfl (viewE_cons rfl rfl (viewE_cons rfl rfl (viewE_cons rfl rfl (viewE_cons rfl rfl (viewE_cons rfl rfl (viewE_cons rfl rfl viewE_nil))))))) rfl rfl) ⟨i75 + 1, (send15 ++ ([x75.ID] : List Int)), (by omega), rfl, (by ((try simp only [List.length_append, List.length_cons, List.length_nil, decide_eq_true_eq, decide_eq_false_iff_not] at *) <;> first | omega | (rw [wrap64_of (by omega) (by omega)]; omega))), hL_73, rfl⟩
   ·rw [hb76]; try simp only [hb76, cond_true, cond_false, Bool.true_and, Bool.false_and, Bool.true_or, Bool.false_or, Bool.not_true, Bool.not_false] at hL_73
    refine GX.skip rfl rfl ?_
    refine GX.skip rfl rfl ?_
    refine GX.q (.bool false) ?_
    refine GX.m rfl ?_
    refine GX.skip rfl rfl ?_
    refine GX.skip rfl rfl ?_
    refine GX.skip rfl rfl ?_
    refine GX.skip rfl rfl ?_
    refine GX.skip rfl rfl ?_
    refine GX.q (.bool false) ?_
    refine GX.m rfl ?_
    refine GX.skip rfl rfl ?_
    refine GX.skip rfl rfl ?_
    refine GX.skip rfl rfl ?_
    refine GX.skip rfl rfl ?_
    refine GX.skip rfl rfl ?_
    refine GX.q (.bool false) ?_
    refine GX.m rfl ?_
    refine GX.done ?_
    refine WK.sr mixed ?_
    refine GX.m rfl ?_
    refine GX.m rfl ?_
    refine GX.m rfl ?_
    refine GX.m rfl ?_
    refine GX.q (.agg (TEntry.c x75)) ?_
    refine GX.q (.agg [.int .i64 (((findM told6 x75.ID).getD (⟨0, 0, 0, 0⟩ : TEntry)).Life), .int .u64 (((findM told6 x75.ID).getD (⟨0, 0, 0, 0⟩ : TEntry)).ID), .int .u32 (((findM told6 x75.ID).getD (⟨0, 0, 0, 0⟩ : TEntry)).Seq), .int .i64 (((findM told6 x75.ID).getD (⟨0, 0, 0, 0⟩ : TEntry)).Sum)]) ?_
    generalize hc112 : F8_link_Compare x75 ((findM told6 x75.ID).getD (⟨0, 0, 0, 0⟩ : TEntry)) = c112 at hL_73
    try dsimp only at hL_73
    refine GX.callp (r := .int .i64 c112) rfl rfl rfl (f8_ok x75 ((findM told6 x75.ID).getD (⟨0, 0, 0, 0⟩ : TEntry)) _ hc112) rfl rfl ?_
    refine GX.q (.bool (decide (0 < c112))) ?_
    refine GX.q (.bool (decide (0 < c112))) ?_
    refine GX.q (.bool (decide (0 < c112))) ?_
    refine GX.done ?_
    rcases bool_two (decide (0 < c112)) with hb80 | hb80
    ·rw [hb80]; try simp only [hb80, cond_true, cond_false, Bool.true_and, Bool.false_and, Bool.true_or, Bool.false_or, Bool.not_true, Bool.not_false] at hL_73
     refine WK.condF rfl ?_
     refine WK.skip ?_
     refine WK.nil (QF.normal (hK75 _ ?_))
     refine WK.regx mixed ?_
     refine GX.pure (v' := .int .i64 ((i75 + 1 : Nat) : Int)) rfl rfl rfl rfl (congrArg (PVal.int .i64) (wrap_up hlt73 hlen_73)) ?_
     refine GX.m rfl ?_
     refine GX.done ?_
     refine WK.nil (QF.normal ?_)
     exact hagain_73 _ (c73.length - (i75 + 1)) ⟨[(3, .ptr 0 0), (6, .mapr 1), (7, .own 2 4 0 ask7.length), (15, .own 3 1 0 send15.length), (73, .ro 4 (c73.map TEntry.c)), (74, .int .i64 (c73.length : Int)), (75, .int .i64 ((i75 + 1) : Int))], [(0, .box (TList.c x1)), (1, .mp (told6.map (encM .u64 (fun y => .agg (TEntry.c y))))), (2, .row 4 25 (ask7.map TEntry.c)), (3, .row 1 22 (send15.map c_u64))], 4⟩ (by omega) (Conv.keep [0, 1, 2, 3] [] [3, 6, 7, 15, 73, 74, 75] rfl rfl (viewE_cons rfl rfl (viewE_cons rfl rfl (viewE_cons rfl rfl (viewE_cons rfl rfl (viewE_cons rfl rfl (viewE_cons rfl rfl (viewE_cons rfl rfl viewE_nil))))))) rfl rfl) ⟨i75 + 1, send15, (by omega), rfl, (by omega), hL_73, rfl⟩
    ·rw [hb80]; try simp only [hb80, cond_true, cond_false, Bool.true_and, Bool.false_and, Bool.true_or, Bool.false_or, Bool.not_true, Bool.not_false] at hL_73
     refine WK.condT rfl ?_
     refine WK.regx mixed ?_
     refine GX.m rfl ?_
     refine GX.q (.ptr 4 1) ?_
     refine GX.q (.int .u64 x75.ID) ?_
     refine GX.step (v' := .own 6 1 0 (([x75.ID] : List Int)).length) (heap' := [(0, .box (TList.c x1)), (1, .mp (told6.map (encM .u64 (fun y => .agg (TEntry.c y))))), (2, .row 4 25 (ask7.map TEntry.c)), (3, .row 1 22 (send15.map c_u64)), (4, .box (TEntry.c x75)), (5, .box [.int .i64 (((findM told6 x75.ID).getD (⟨0, 0, 0, 0⟩ : TEntry)).Life), .int .u64 (((findM told6 x75.ID).getD (⟨0, 0, 0, 0⟩ : TEntry)).ID), .int .u32 (((findM told6 x75.ID).getD (⟨0, 0, 0, 0⟩ : TEntry)).Seq), .int .i64 (((findM told6 x75.ID).getD (⟨0, 0, 0, 0⟩ : TEntry)).Sum)]), (6, .row 1 22 (([x75.ID] : List Int).map c_u64))]) (next' := 7) rfl rfl rfl rfl rfl rfl rfl ?_
     refine GX.appT (c := c_u64) (L := send15) (X := ([x75.ID] : List Int)) (heap' := [(0, .box (TList.c x1)), (1, .mp (told6.map (encM .u64 (fun y => .agg (TEntry.c y))))), (2, .row 4 25 (ask7.map TEntry.c)), (4, .box (TEntry.c x75)), (5, .box [.int .i64 (((findM told6 x75.ID).getD (⟨0, 0, 0, 0⟩ : TEntry)).Life), .int .u64 (((findM told6 x75.ID).getD (⟨0, 0, 0, 0⟩ : TEntry)).ID), .int .u32 (((findM told6 x75.ID).getD (⟨0, 0, 0, 0⟩ : TEntry)).Seq), .int .i64 (((findM told6 x75.ID).getD (⟨0, 0, 0, 0⟩ : TEntry)).Sum)]), (6, .row 1 22 (([x75.ID] : List Int).map c_u64)), (7, .row 1 22 ((send15 ++ ([x75.ID] : List Int)).map c_u64))]) (next' := 8) rfl rfl rfl rfl (elems_own rfl) (by ((try simp only [List.length_append, List.length_cons, List.length_nil, List.length_map, decide_eq_true_eq, decide_eq_false_iff_not] at *) <;> omega)) (by ((try simp only [List.length_append, List.length_cons, List.length_nil, List.length_map, decide_eq_true_eq, decide_eq_false_iff_not] at *) <;> omega)) rfl rfl rfl rfl ?_
     refine GX.m rfl ?_
     refine GX.done ?_
     refine WK.nil (QF.normal (hK75 _ ?_))
     refine WK.regx mixed ?_
     refine GX.pure (v' := .int .i64 ((i75 + 1 : Nat) : Int)) rfl rfl rfl rfl (congrArg (PVal.int .i64) (wrap_up hlt73 hlen_73)) ?_
     refine GX.m rfl ?_
     refine GX.done ?_
     refine WK.nil (QF.normal ?_)
     exact hagain_73 _ (c73.length - (i75 + 1)) ⟨[(3, .ptr 0 0), (6, .mapr 1), (7, .own 2 4 0 ask7.length), (15, .own 3 1 0 (send15 ++ ([x75.ID] : List Int)).length), (73, .ro 4 (c73.map TEntry.c)), (74, .int .i64 (c73.length : Int)), (75, .int .i64 ((i75 + 1) : Int))], [(0, .box (TList.c x1)), (1, .mp (told6.map (encM .u64 (fun y => .agg (TEntry.c y))))), (2, .row 4 25 (ask7.map TEntry.c)), (3, .row 1 22 ((send15 ++ ([x75.ID] : List Int)).map c_u64))], 4⟩ (by omega) (Conv.keep [0, 1, 2, 7] [] [3, 6, 7, 15, 73, 74, 75] rfl rfl (viewE_cons rfl rfl (viewE_cons rfl rfl (viewE_cons rfl rfl (viewE_cons rfl rfl (viewE_cons rfl rfl (viewE_cons rfl rfl (viewE_cons rfl rfl viewE_nil))))))) rfl rfl) ⟨i75 + 1, (send15 ++ ([x75.ID] : List Int)), (by omega), rfl, (by ((try simp only [List.length_append, List.length_cons, List.length_nil, decide_eq_true_eq, decide_eq_false_iff_not] at *) <;> first | omega | (rw [wrap64_of (by omega) (by omega)]; omega))), hL_73, rfl⟩
 ·rw [hb58]
  obtain ⟨x25, hx57, hd57, hlt57⟩ := drop_more hb58
  rw [hd57, F18_link_Differ_l3] at hL_57
  refine WK.condT rfl ?_
  refine WK.skip ?_
  refine WK.seq ?_
  refine WK.blockK (fun _ hK81 => ?_)
  refine WK.sr mixed ?_
  refine GX.idxT (c := TEntry.c) (x := x25) rfl rfl rfl (Int.natCast_nonneg _) hx57 ?_
  refine GX.q (.agg (TEntry.c x25)) ?_
  refine GX.step (v' := .ptr 4 0) (heap' := [(0, .box (TBase.c b0)), (1, .box (TList.c x1)), (2, .mp (told6.map (encM .u64 (fun y => .agg (TEntry.c y))))), (3, .row 4 25 (ask7.map TEntry.c)), (4, .box [.int .i64 0, .int .u64 0, .int .u32 0, .int .i64 0])]) (next' := 5) rfl rfl rfl rfl rfl rfl rfl ?_
  refine GX.step0 (heap' := [(0, .box (TBase.c b0)), (1, .box (TList.c x1)), (2, .mp (told6.map (encM .u64 (fun y => .agg (TEntry.c y))))), (3, .row 4 25 (ask7.map TEntry.c)), (4, .box (TEntry.c x25))]) (next' := 5) rfl rfl rfl rfl rfl ?_
  refine GX.done ?_
  refine WK.seq ?_
  refine WK.sr mixed ?_
  refine GX.m rfl ?_
  refine GX.q (.ptr 4 1) ?_
  refine GX.q (.int .u64 x25.ID) ?_
  refine GX.pure (v' := .tup [.agg [.int .i64 (((findM told6 x25.ID).getD (⟨0, 0, 0, 0⟩ : TEntry)).Life), .int .u64 (((findM told6 x25.ID).getD (⟨0, 0, 0, 0⟩ : TEntry)).ID), .int .u32 (((findM told6 x25.ID).getD (⟨0, 0, 0, 0⟩ : TEntry)).Seq), .int .i64 (((findM told6 x25.ID).getD (⟨0, 0, 0, 0⟩ : TEntry)).Sum)], .bool ((findM told6 x25.ID).isSome)]) rfl rfl rfl (core_lookM2 (e := (fun y => .agg (TEntry.c y))) (z0 := (⟨0, 0, 0, 0⟩ : TEntry)) rfl rfl) rfl ?_
  refine GX.m rfl ?_
  refine GX.q (.agg [.int .i64 (((findM told6 x25.ID).getD (⟨0, 0, 0, 0⟩ : TEntry)).Life), .int .u64 (((findM told6 x25.ID).getD (⟨0, 0, 0, 0⟩ : TEntry)).ID), .int .u32 (((findM told6 x25.ID).getD (⟨0, 0, 0, 0⟩ : TEntry)).Seq), .int .i64 (((findM told6 x25.ID).getD (⟨0, 0, 0, 0⟩ : TEntry)).Sum)]) ?_
  refine GX.q (.bool ((findM told6 x25.ID).isSome)) ?_
  refine GX.step (v' := .ptr 5 0) (heap' := [(0, .box (TBase.c b0)), (1, .box (TList.c x1)), (2, .mp (told6.map (encM .u64 (fun y => .agg (TEntry.c y))))), (3, .row 4 25 (ask7.map TEntry.c)), (4, .box (TEntry.c x25)), (5, .box [.int .i64 0, .int .u64 0, .int .u32 0, .int .i64 0])]) (next' := 6) rfl rfl rfl rfl rfl rfl rfl ?_
  refine GX.step0 (heap' := [(0, .box (TBase.c b0)), (1, .box (TList.c x1)), (2, .mp (told6.map (encM .u64 (fun y => .agg (TEntry.c y))))), (3, .row 4 25 (ask7.map TEntry.c)), (4, .box (TEntry.c x25)), (5, .box [.int .i64 (((findM told6 x25.ID).getD (⟨0, 0, 0, 0⟩ : TEntry)).Life), .int .u64 (((findM told6 x25.ID).getD (⟨0, 0, 0, 0⟩ : TEntry)).ID), .int .u32 (((findM told6 x25.ID).getD (⟨0, 0, 0, 0⟩ : TEntry)).Seq), .int .i64 (((findM told6 x25.ID).getD (⟨0, 0, 0, 0⟩ : TEntry)).Sum)])]) (next' := 6) rfl rfl rfl rfl rfl ?_
  refine GX.m rfl ?_
  refine GX.done ?_
  refine WK.sr mixed ?_
  refine GX.m rfl ?_
  refine GX.done ?_
  rcases bool_two ((findM told6 x25.ID).isSome) with hb82 | hb82
  ·rw [hb82]; try simp only [hb82, cond_true, cond_false, Bool.true_and, Bool.false_and, Bool.true_or, Bool.false_or, Bool.not_true, Bool.not_false] at hL_57
   refine WK.condF rfl ?_
   refine WK.skip ?_
   refine WK.sr mixed ?_
   refine GX.m rfl ?_
   refine GX.q (.ptr 4 1) ?_
   refine GX.q (.int .u64 x25.ID) ?_
   refine GX.q (.agg (TEntry.c x25)) ?_
   refine GX.step0 (heap' := [(0, .box (TBase.c b0)), (1, .box (TList.c x1)), (2, .mp ((setM told6 x25.ID x25).map (encM .u64 (fun y => .agg (TEntry.c y))))), (3, .row 4 25 (ask7.map TEntry.c)), (4, .box (TEntry.c x25)), (5, .box [.int .i64 (((findM told6 x25.ID).getD (⟨0, 0, 0, 0⟩ : TEntry)).Life), .int .u64 (((findM told6 x25.ID).getD (⟨0, 0, 0, 0⟩ : TEntry)).ID), .int .u32 (((findM told6 x25.ID).getD (⟨0, 0, 0, 0⟩ : TEntry)).Seq), .int .i64 (((findM told6 x25.ID).getD (⟨0, 0, 0, 0⟩ : TEntry)).Sum)])]) (next' := 6) rfl rfl (core_msetM (e := (fun y => .agg (TEntry.c y))) (y0 := x25) rfl rfl rfl) rfl rfl ?_
   refine GX.done ?_
   refine WK.sr mixed ?_
   refine GX.q (.ptr 4 1) ?_
   refine GX.q (.int .u64 x25.ID) ?_
   refine GX.q (.agg [.int .i64 0, .int .u64 x25.ID, .int .u32 0, .int .i64 0]) ?_
   refine GX.step (v' := .ptr 6 0) (heap' := [(0, .box (TBase.c b0)), (1, .box (TList.c x1)), (2, .mp ((setM told6 x25.ID x25).map (encM .u64 (fun y => .agg (TEntry.c y))))), (3, .row 4 25 (ask7.map TEntry.c)), (4, .box (TEntry.c x25)), (5, .box [.int .i64 (((findM told6 x25.ID).getD (⟨0, 0, 0, 0⟩ : TEntry)).Life), .int .u64 (((findM told6 x25.ID).getD (⟨0, 0, 0, 0⟩ : TEntry)).ID), .int .u32 (((findM told6 x25.ID).getD (⟨0, 0, 0, 0⟩ : TEntry)).Seq), .int .i64 (((findM told6 x25.ID).getD (⟨0, 0, 0, 0⟩ : TEntry)).Sum)]), (6, .box [.int .i64 0, .int .u64 0, .int .u32 0, .int .i64 0])]) (next' := 7) rfl rfl rfl rfl rfl rfl rfl ?_
   refine GX.step0 (heap' := [(0, .box (TBase.c b0)), (1, .box (TList.c x1)), (2, .mp ((setM told6 x25.ID x25).map (encM .u64 (fun y => .agg (TEntry.c y))))), (3, .row 4 25 (ask7.map TEntry.c)), (4, .box (TEntry.c x25)), (5, .box [.int .i64 (((findM told6 x25.ID).getD (⟨0, 0, 0, 0⟩ : TEntry)).Life), .int .u64 (((findM told6 x25.ID).getD (⟨0, 0, 0, 0⟩ : TEntry)).ID), .int .u32 (((findM told6 x25.ID).getD (⟨0, 0, 0, 0⟩ : TEntry)).Seq), .int .i64 (((findM told6 x25.ID).getD (⟨0, 0, 0, 0⟩ : TEntry)).Sum)]), (6, .box [.int .i64 0, .int .u64 x25.ID, .int .u32 0, .int .i64 0])]) (next' := 7) rfl rfl rfl rfl rfl ?_
   refine GX.done ?_
   refine WK.sr mixed ?_
   refine GX.q (.agg (TBase.c b0)) ?_
   refine GX.q (.ptr 4 1) ?_
   refine GX.q (.int .u64 x25.ID) ?_
   generalize hc48 : F47_link_Find b0 x25.ID = c48 at hL_57
   have hpo0_c48 := post_Find b0 x25.ID (by omega); rw [hc48] at hpo0_c48
   obtain ⟨c48a, c48b⟩ := c48; try dsimp only at hL_57; try dsimp only at hpo0_c48
   refine GX.callp (r := .tup [.agg [.int .i64 c48a.Level, .int .i64 c48a.Life, .int .u64 c48a.ID, .int .u32 c48a.Seq, .int .i64 c48a.Sum, .int .i64 c48a.Bits, .ro 2 (c48a.Things.map TThing.c)], .bool c48b]) rfl rfl rfl (f47_ok b0 x25.ID (by omega) _ hc48) rfl rfl ?_
   refine GX.m rfl ?_
   refine GX.q (.agg [.int .i64 c48a.Level, .int .i64 c48a.Life, .int .u64 c48a.ID, .int .u32 c48a.Seq, .int .i64 c48a.Sum, .int .i64 c48a.Bits, .ro 2 (c48a.Things.map TThing.c)]) ?_
   refine GX.q (.bool c48b) ?_
   refine GX.step (v' := .ptr 7 0) (heap' := [(0, .box (TBase.c b0)), (1, .box (TList.c x1)), (2, .mp ((setM told6 x25.ID x25).map (encM .u64 (fun y => .agg (TEntry.c y))))), (3, .row 4 25 (ask7.map TEntry.c)), (4, .box (TEntry.c x25)), (5, .box [.int .i64 (((findM told6 x25.ID).getD (⟨0, 0, 0, 0⟩ : TEntry)).Life), .int .u64 (((findM told6 x25.ID).getD (⟨0, 0, 0, 0⟩ : TEntry)).ID), .int .u32 (((findM told6 x25.ID).getD (⟨0, 0, 0, 0⟩ : TEntry)).Seq), .int .i64 (((findM told6 x25.ID).getD (⟨0, 0, 0, 0⟩ : TEntry)).Sum)]), (6, .box [.int .i64 0, .int .u64 x25.ID, .int .u32 0, .int .i64 0]), (7, .box [.int .i64 0, .int .i64 0, .int .u64 0, .int .u32 0, .int .i64 0, .int .i64 0, .nils])]) (next' := 8) rfl rfl rfl rfl rfl rfl rfl ?_
   refine GX.step0 (heap' := [(0, .box (TBase.c b0)), (1, .box (TList.c x1)), (2, .mp ((setM told6 x25.ID x25).map (encM .u64 (fun y => .agg (TEntry.c y))))), (3, .row 4 25 (ask7.map TEntry.c)), (4, .box (TEntry.c x25)), (5, .box [.int .i64 (((findM told6 x25.ID).getD (⟨0, 0, 0, 0⟩ : TEntry)).Life), .int .u64 (((findM told6 x25.ID).getD (⟨0, 0, 0, 0⟩ : TEntry)).ID), .int .u32 (((findM told6 x25.ID).getD (⟨0, 0, 0, 0⟩ : TEntry)).Seq), .int .i64 (((findM told6 x25.ID).getD (⟨0, 0, 0, 0⟩ : TEntry)).Sum)]), (6, .box [.int .i64 0, .int .u64 x25.ID, .int .u32 0, .int .i64 0]), (7, .box (TLsp.c c48a))]) (next' := 8) rfl rfl rfl rfl rfl ?_
   refine GX.m rfl ?_
   refine GX.done ?_
   refine WK.seq ?_
   refine WK.sr mixed ?_
   refine GX.m rfl ?_
   refine GX.done ?_
   rcases bool_two (c48b) with hb83 | hb83
   ·rw [hb83]; try simp only [hb83, cond_true, cond_false, Bool.true_and, Bool.false_and, Bool.true_or, Bool.false_or, Bool.not_true, Bool.not_false] at hL_57
    refine WK.condF rfl ?_
    refine WK.skip ?_
    refine WK.sr mixed ?_
    refine GX.q (.ptr 4 0) ?_
    refine GX.q (.int .i64 x25.Life) ?_
    refine GX.q (.bool (!decide (x25.Life = 0))) ?_
    refine GX.m rfl ?_
    rcases bool_two (decide (x25.Life = 0)) with hb84 | hb84
    ·rw [hb84]; try simp only [hb84, cond_true, cond_false, Bool.true_and, Bool.false_and, Bool.true_or, Bool.false_or, Bool.not_true, Bool.not_false] at hL_57
     refine GX.m rfl ?_
     refine GX.q (.bool true) ?_
     refine GX.m rfl ?_
     refine GX.skip rfl rfl ?_
     refine GX.skip rfl rfl ?_
     refine GX.skip rfl rfl ?_
     refine GX.skip rfl rfl ?_
     refine GX.q (.bool true) ?_
     refine GX.q (.bool true) ?_
     refine GX.done ?_
     refine WK.condT rfl ?_
     refine WK.regx mixed ?_
     refine GX.m rfl ?_
     refine GX.q (.agg [.int .i64 0, .int .u64 x25.ID, .int .u32 0, .int .i64 0]) ?_
     refine GX.step (v' := .own 8 4 0 (([(⟨0, x25.ID, 0, 0⟩ : TEntry)] : List TEntry)).length) (heap' := [(0, .box (TBase.c b0)), (1, .box (TList.c x1)), (2, .mp ((setM told6 x25.ID x25).map (encM .u64 (fun y => .agg (TEntry.c y))))), (3, .row 4 25 (ask7.map TEntry.c)), (4, .box (TEntry.c x25)), (5, .box [.int .i64 (((findM told6 x25.ID).getD (⟨0, 0, 0, 0⟩ : TEntry)).Life), .int .u64 (((findM told6 x25.ID).getD (⟨0, 0, 0, 0⟩ : TEntry)).ID), .int .u32 (((findM told6 x25.ID).getD (⟨0, 0, 0, 0⟩ : TEntry)).Seq), .int .i64 (((findM told6 x25.ID).getD (⟨0, 0, 0, 0⟩ : TEntry)).Sum)]), (6, .box [.int .i64 0, .int .u64 x25.ID, .int .u32 0, .int .i64 0]), (7, .box (TLsp.c c48a)), (8, .row 4 25 (([(⟨0, x25.ID, 0, 0⟩ : TEntry)] : List TEntry).map TEntry.c))]) (next' := 9) rfl rfl rfl rfl rfl rfl rfl ?_
     refine GX.appT (c := TEntry.c) (L := ask7) (X := ([(⟨0, x25.ID, 0, 0⟩ : TEntry)] : List TEntry)) (heap' := [(0, .box (TBase.c b0)), (1, .box (TList.c x1)), (2, .mp ((setM told6 x25.ID x25).map (encM .u64 (fun y => .agg (TEntry.c y))))), (4, .box (TEntry.c x25)), (5, .box [.int .i64 (((findM told6 x25.ID).getD (⟨0, 0, 0, 0⟩ : TEntry)).Life), .int .u64 (((findM told6 x25.ID).getD (⟨0, 0, 0, 0⟩ : TEntry)).ID), .int .u32 (((findM told6 x25.ID).getD (⟨0, 0, 0, 0⟩ : TEntry)).Seq), .int .i64 (((findM told6 x25.ID).getD (⟨0, 0, 0, 0⟩ : TEntry)).Sum)]), (6, .box [.int .i64 0, .int .u64 x25.ID, .int .u32 0, .int .i64 0]), (7, .box (TLsp.c c48a)), (8, .row 4 25 (([(⟨0, x25.ID, 0, 0⟩ : TEntry)] : List TEntry).map TEntry.c)), (9, .row 4 25 ((ask7 ++ ([(⟨0, x25.ID, 0, 0⟩ : TEntry)] : List TEntry)).map TEntry.c))]) (next' := 10) rfl rfl rfl rfl (elems_own rfl) (by ((try simp only [List.length_append, List.length_cons, List.length_nil, List.length_map, decide_eq_true_eq, decide_eq_false_iff_not] at *) <;> omega)) (by ((try simp only [List.length_append, List.length_cons, List.length_nil, List.length_map, decide_eq_true_eq, decide_eq_false_iff_not] at *) <;> omega)) rfl rfl rfl rfl ?_
     refine GX.m rfl ?_
     refine GX.done ?_
     refine WK.nil (QF.normal (hK81 _ ?_))
     refine WK.regx mixed ?_
     refine GX.pure (v' := .int .i64 ((i25 + 1 : Nat) : Int)) rfl rfl rfl rfl (congrArg (PVal.int .i64) (wrap_up hlt57 hlen_57)) ?_
     refine GX.m rfl ?_
     refine GX.done ?_
     refine WK.nil (QF.normal ?_)
     exact hagain_57 _ (x1.L.length - (i25 + 1)) ⟨[(2, .ptr 0 0), (3, .ptr 1 0), (6, .mapr 2), (7, .own 3 4 0 (ask7 ++ ([(⟨0, x25.ID, 0, 0⟩ : TEntry)] : List TEntry)).length), (23, .ro 4 (x1.L.map TEntry.c)), (24, .int .i64 (x1.L.length : Int)), (25, .int .i64 ((i25 + 1) : Int))], [(0, .box (TBase.c b0)), (1, .box (TList.c x1)), (2, .mp ((setM told6 x25.ID x25).map (encM .u64 (fun y => .agg (TEntry.c y))))), (3, .row 4 25 ((ask7 ++ ([(⟨0, x25.ID, 0, 0⟩ : TEntry)] : List TEntry)).map TEntry.c))], 4⟩ (by omega) (Conv.keep [0, 1, 2, 9] [] [2, 3, 6, 7, 23, 24, 25] rfl rfl (viewE_cons rfl rfl (viewE_cons rfl rfl (viewE_cons rfl rfl (viewE_cons rfl rfl (viewE_cons rfl rfl (viewE_cons rfl rfl (viewE_cons rfl rfl viewE_nil))))))) rfl rfl) ⟨i25 + 1, (setM told6 x25.ID x25), (ask7 ++ ([(⟨0, x25.ID, 0, 0⟩ : TEntry)] : List TEntry)), (by omega), rfl, (by ((try simp only [List.length_append, List.length_cons, List.length_nil, decide_eq_true_eq, decide_eq_false_iff_not] at *) <;> first | omega | (rw [wrap64_of (by omega) (by omega)]; omega))), hL_57, rfl⟩
    ·rw [hb84]; try simp only [hb84, cond_true, cond_false, Bool.true_and, Bool.false_and, Bool.true_or, Bool.false_or, Bool.not_true, Bool.not_false] at hL_57
     refine GX.skip rfl rfl ?_
     refine GX.skip rfl rfl ?_
     refine GX.skip rfl rfl ?_
     refine GX.skip rfl rfl ?_
     refine GX.skip rfl rfl ?_
     refine GX.skip rfl rfl ?_
     refine GX.skip rfl rfl ?_
     refine GX.skip rfl rfl ?_
     refine GX.q (.bool false) ?_
     refine GX.done ?_
     refine WK.condF rfl ?_
     refine WK.skip ?_
     refine WK.nil (QF.normal (hK81 _ ?_))
     refine WK.regx mixed ?_
     refine GX.pure (v' := .int .i64 ((i25 + 1 : Nat) : Int)) rfl rfl rfl rfl (congrArg (PVal.int .i64) (wrap_up hlt57 hlen_57)) ?_
     refine GX.m rfl ?_
     refine GX.done ?_
     refine WK.nil (QF.normal ?_)
     exact hagain_57 _ (x1.L.length - (i25 + 1)) ⟨[(2, .ptr 0 0), (3, .ptr 1 0), (6, .mapr 2), (7, .own 3 4 0 ask7.length), (23, .ro 4 (x1.L.map TEntry.c)), (24, .int .i64 (x1.L.length : Int)), (25, .int .i64 ((i25 + 1) : Int))], [(0, .box (TBase.c b0)), (1, .box (TList.c x1)), (2, .mp ((setM told6 x25.ID x25).map (encM .u64 (fun y => .agg (TEntry.c y))))), (3, .row 4 25 (ask7.map TEntry.c))], 4⟩ (by omega) (Conv.keep [0, 1, 2, 3] [] [2, 3, 6, 7, 23, 24, 25] rfl rfl (viewE_cons rfl rfl (viewE_cons rfl rfl (viewE_cons rfl rfl (viewE_cons rfl rfl (viewE_cons rfl rfl (viewE_cons rfl rfl (viewE_cons rfl rfl viewE_nil))))))) rfl rfl) ⟨i25 + 1, (setM told6 x25.ID x25), ask7, (by omega), rfl, (by omega), hL_57, rfl⟩
   ·rw [hb83]; try simp only [hb83, cond_true, cond_false, Bool.true_and, Bool.false_and, Bool.true_or, Bool.false_or, Bool.not_true, Bool.not_false] at hL_57
    refine WK.condT rfl ?_
    refine WK.regx mixed ?_
    refine GX.q (.agg (TLsp.c c48a)) ?_
    generalize hc53 : F14_link_Entry c48a = c53 at hL_57
    try dsimp only at hL_57
    refine GX.callp (r := .agg [.int .i64 c53.Life, .int .u64 c53.ID, .int .u32 c53.Seq, .int .i64 c53.Sum]) rfl rfl rfl (f14_ok c48a _ hc53) rfl rfl ?_
    refine GX.step0 (heap' := [(0, .box (TBase.c b0)), (1, .box (TList.c x1)), (2, .mp ((setM told6 x25.ID x25).map (encM .u64 (fun y => .agg (TEntry.c y))))), (3, .row 4 25 (ask7.map TEntry.c)), (4, .box (TEntry.c x25)), (5, .box [.int .i64 (((findM told6 x25.ID).getD (⟨0, 0, 0, 0⟩ : TEntry)).Life), .int .u64 (((findM told6 x25.ID).getD (⟨0, 0, 0, 0⟩ : TEntry)).ID), .int .u32 (((findM told6 x25.ID).getD (⟨0, 0, 0, 0⟩ : TEntry)).Seq), .int .i64 (((findM told6 x25.ID).getD (⟨0, 0, 0, 0⟩ : TEntry)).Sum)]), (6, .box (TEntry.c c53)), (7, .box (TLsp.c c48a))]) (next' := 8) rfl rfl rfl rfl rfl ?_
    refine GX.done ?_
    refine WK.sr mixed ?_
    refine GX.q (.ptr 4 0) ?_
    refine GX.q (.int .i64 x25.Life) ?_
    refine GX.q (.bool (!decide (x25.Life = 0))) ?_
    refine GX.m rfl ?_
    rcases bool_two (decide (x25.Life = 0)) with hb85 | hb85
    ·rw [hb85]; try simp only [hb85, cond_true, cond_false, Bool.true_and, Bool.false_and, Bool.true_or, Bool.false_or, Bool.not_true, Bool.not_false] at hL_57
     refine GX.m rfl ?_
     refine GX.q (.bool false) ?_
     refine GX.m rfl ?_
     refine GX.q (.agg (TEntry.c x25)) ?_
     refine GX.q (.agg (TEntry.c c53)) ?_
     generalize hc63 : F8_link_Compare x25 c53 = c63 at hL_57
     try dsimp only at hL_57
     refine GX.callp (r := .int .i64 c63) rfl rfl rfl (f8_ok x25 c53 _ hc63) rfl rfl ?_
     refine GX.q (.bool (decide (0 < c63))) ?_
     refine GX.q (.bool (decide (0 < c63))) ?_
     refine GX.q (.bool (decide (0 < c63))) ?_
     refine GX.done ?_
     rcases bool_two (decide (0 < c63)) with hb86 | hb86
     ·rw [hb86]; try simp only [hb86, cond_true, cond_false, Bool.true_and, Bool.false_and, Bool.true_or, Bool.false_or, Bool.not_true, Bool.not_false] at hL_57
      refine WK.condF rfl ?_
      refine WK.skip ?_
      refine WK.nil (QF.normal (hK81 _ ?_))
      refine WK.regx mixed ?_
      refine GX.pure (v' := .int .i64 ((i25 + 1 : Nat) : Int)) rfl rfl rfl rfl (congrArg (PVal.int .i64) (wrap_up hlt57 hlen_57)) ?_
      refine GX.m rfl ?_
      refine GX.done ?_
      refine WK.nil (QF.normal ?_)
      exact hagain_57 _ (x1.L.length - (i25 + 1)) ⟨[(2, .ptr 0 0), (3, .ptr 1 0), (6, .mapr 2), (7, .own 3 4 0 ask7.length), (23, .ro 4 (x1.L.map TEntry.c)), (24, .int .i64 (x1.L.length : Int)), (25, .int .i64 ((i25 + 1) : Int))], [(0, .box (TBase.c b0)), (1, .box (TList.c x1)), (2, .mp ((setM told6 x25.ID x25).map (encM .u64 (fun y => .agg (TEntry.c y))))), (3, .row 4 25 (ask7.map TEntry.c))], 4⟩ (by omega) (Conv.keep [0, 1, 2, 3] [] [2, 3, 6, 7, 23, 24, 25] rfl rfl (viewE_cons rfl rfl (viewE_cons rfl rfl (viewE_cons rfl rfl (viewE_cons rfl rfl (viewE_cons rfl rfl (viewE_cons rfl rfl (viewE_cons rfl rfl viewE_nil))))))) rfl rfl) ⟨i25 + 1, (setM told6 x25.ID x25), ask7, (by omega), rfl, (by omega), hL_57, rfl⟩
     ·rw [hb86]; try simp only [hb86, cond_true, cond_false, Bool.true_and, Bool.false_and, Bool.true_or, Bool.false_or, Bool.not_true, Bool.not_false] at hL_57
      refine WK.condT rfl ?_
      refine WK.regx mixed ?_
      refine GX.m rfl ?_
      refine GX.q (.agg (TEntry.c c53)) ?_
      refine GX.step (v' := .own 8 4 0 (([c53] : List TEntry)).length) (heap' := [(0, .box (TBase.c b0)), (1, .box (TList.c x1)), (2, .mp ((setM told6 x25.ID x25).map (encM .u64 (fun y => .agg (TEntry.c y))))), (3, .row 4 25 (ask7.map TEntry.c)), (4, .box (TEntry.c x25)), (5, .box [.int .i64 (((findM told6 x25.ID).getD (⟨0, 0, 0, 0⟩ : TEntry)).Life), .int .u64 (((findM told6 x25.ID).getD (⟨0, 0, 0, 0⟩ : TEntry)).ID), .int .u32 (((findM told6 x25.ID).getD (⟨0, 0, 0, 0⟩ : TEntry)).Seq), .int .i64 (((findM told6 x25.ID).getD (⟨0, 0, 0, 0⟩ : TEntry)).Sum)]), (6, .box (TEntry.c c53)), (7, .box (TLsp.c c48a)), (8, .row 4 25 (([c53] : List TEntry).map TEntry.c))]) (next' := 9) rfl rfl rfl rfl rfl rfl rfl ?_
      refine GX.appT (c := TEntry.c) (L := ask7) (X := ([c53] : List TEntry)) (heap' := [(0, .box (TBase.c b0)), (1, .box (TList.c x1)), (2, .mp ((setM told6 x25.ID x25).map (encM .u64 (fun y => .agg (TEntry.c y))))), (4, .box (TEntry.c x25)), (5, .box [.int .i64 (((findM told6 x25.ID).getD (⟨0, 0, 0, 0⟩ : TEntry)).Life), .int .u64 (((findM told6 x25.ID).getD (⟨0, 0, 0, 0⟩ : TEntry)).ID), .int .u32 (((findM told6 x25.ID).getD (⟨0, 0, 0, 0⟩ : TEntry)).Seq), .int .i64 (((findM told6 x25.ID).getD (⟨0, 0, 0, 0⟩ : TEntry)).Sum)]), (6, .box (TEntry.c c53)), (7, .box (TLsp.c c48a)), (8, .row 4 25 (([c53] : List TEntry).map TEntry.c)), (9, .row 4 25 ((ask7 ++ ([c53] : List TEntry)).map TEntry.c))]) (next' := 10) rfl rfl rfl rfl (elems_own rfl) (by ((try simp only [List.length_append, List.length_cons, List.length_nil, List.length_map, decide_eq_true_eq, decide_eq_false_iff_not] at *) <;> omega)) (by ((try simp only [List.length_append, List.length_cons, List.length_nil, List.length_map, decide_eq_true_eq, decide_eq_false_iff_not] at *) <;> omega)) rfl rfl rfl rfl ?_
      refine GX.m rfl ?_
      refine GX.done ?_
      refine WK.nil (QF.normal (hK81 _ ?_))
      refine WK.regx mixed ?_
      refine GX.pure (v' := .int .i64 ((i25 + 1 : Nat) : Int)) rfl rfl rfl rfl (congrArg (PVal.int .i64) (wrap_up hlt57 hlen_57)) ?_
      refine GX.m rfl ?_
      refine GX.done ?_
      refine WK.nil (QF.normal ?_)
      exact hagain_57 _ (x1.L.length - (i25 + 1)) ⟨[(2, .ptr 0 0), (3, .ptr 1 0), (6, .mapr 2), (7, .own 3 4 0 (ask7 ++ ([c53] : List TEntry)).length), (23, .ro 4 (x1.L.map TEntry.c)), (24, .int .i64 (x1.L.length : Int)), (25, .int .i64 ((i25 + 1) : Int))], [(0, .box (TBase.c b0)), (1, .box (TList.c x1)), (2, .mp ((setM told6 x25.ID x25).map (encM .u64 (fun y => .agg (TEntry.c y))))), (3, .row 4 25 ((ask7 ++ ([c53] : List TEntry)).map TEntry.c))], 4⟩ (by omega) (Conv.keep [0, 1, 2, 9] [] [2, 3, 6, 7, 23, 24, 25] rfl rfl (viewE_cons rfl rfl (viewE_cons rfl rfl (viewE_cons rfl rfl (viewE_cons rfl rfl (viewE_cons rfl rfl (viewE_cons rfl rfl (viewE_cons rfl rfl viewE_nil))))))) rfl rfl) ⟨i25 + 1, (setM told6 x25.ID x25), (ask7 ++ ([c53] : List TEntry)), (by omega), rfl, (by ((try simp only [List.length_append, List.length_cons, List.length_nil, decide_eq_true_eq, decide_eq_false_iff_not] at *) <;> first | omega | (rw [wrap64_of (by omega) (by omega)]; omega))), hL_57, rfl⟩
    ·rw [hb85]; try simp only [hb85, cond_true, cond_false, Bool.true_and, Bool.false_and, Bool.true_or, Bool.false_or, Bool.not_true, Bool.not_false] at hL_57
     refine GX.skip rfl rfl ?_
     refine GX.skip rfl rfl ?_
     refine GX.skip rfl rfl ?_
     refine GX.skip rfl rfl ?_
     refine GX.skip rfl rfl ?_
     refine GX.skip rfl rfl ?_
     refine GX.skip rfl rfl ?_
     refine GX.skip rfl rfl ?_
     refine GX.q (.bool false) ?_
     refine GX.done ?_
     refine WK.condF rfl ?_
     refine WK.skip ?_
     refine WK.nil (QF.normal (hK81 _ ?_))
     refine WK.regx mixed ?_
     refine GX.pure (v' := .int .i64 ((i25 + 1 : Nat) : Int)) rfl rfl rfl rfl (congrArg (PVal.int .i64) (wrap_up hlt57 hlen_57)) ?_
     refine GX.m rfl ?_
     refine GX.done ?_
     refine WK.nil (QF.normal ?_)
     exact hagain_57 _ (x1.L.length - (i25 + 1)) ⟨[(2, .ptr 0 0), (3, .ptr 1 0), (6, .mapr 2), (7, .own 3 4 0 ask7.length), (23, .ro 4 (x1.L.map TEntry.c)), (24, .int .i64 (x1.L.length : Int)), (25, .int .i64 ((i25 + 1) : Int))], [(0, .box (TBase.c b0)), (1, .box (TList.c x1)), (2, .mp ((setM told6 x25.ID x25).map (encM .u64 (fun y => .agg (TEntry.c y))))), (3, .row 4 25 (ask7.map TEntry.c))], 4⟩ (by omega) (Conv.keep [0, 1, 2, 3] [] [2, 3, 6, 7, 23, 24, 25] rfl rfl (viewE_cons rfl rfl (viewE_cons rfl rfl (viewE_cons rfl rfl (viewE_cons rfl rfl (viewE_cons rfl rfl (viewE_cons rfl rfl (viewE_cons rfl rfl viewE_nil))))))) rfl rfl) ⟨i25 + 1, (setM told6 x25.ID x25), ask7, (by omega), rfl, (by omega), hL_57, rfl⟩
  ·rw [hb82]; try simp only [hb82, cond_true, cond_false, Bool.true_and, Bool.false_and, Bool.true_or, Bool.false_or, Bool.not_true, Bool.not_false] at hL_57
   refine WK.condT rfl ?_
   refine WK.exit ?_
   refine QF.exit (hK81 _ ?_)
   refine WK.regx mixed ?_
   refine GX.pure (v' := .int .i64 ((i25 + 1 : Nat) : Int)) rfl rfl rfl rfl (congrArg (PVal.int .i64) (wrap_up hlt57 hlen_57)) ?_
   refine GX.m rfl ?_
   refine GX.done ?_
   refine WK.nil (QF.normal ?_)
   exact hagain_57 _ (x1.L.length - (i25 + 1)) ⟨[(2, .ptr 0 0), (3, .ptr 1 0), (6, .mapr 2), (7, .own 3 4 0 ask7.length), (23, .ro 4 (x1.L.map TEntry.c)), (24, .int .i64 (x1.L.length : Int)), (25, .int .i64 ((i25 + 1) : Int))], [(0, .box (TBase.c b0)), (1, .box (TList.c x1)), (2, .mp (told6.map (encM .u64 (fun y => .agg (TEntry.c y))))), (3, .row 4 25 (ask7.map TEntry.c))], 4⟩ (by omega) (Conv.keep [0, 1, 2, 3] [] [2, 3, 6, 7, 23, 24, 25] rfl rfl (viewE_cons rfl rfl (viewE_cons rfl rfl (viewE_cons rfl rfl (viewE_cons rfl rfl (viewE_cons rfl rfl (viewE_cons rfl rfl (viewE_cons rfl rfl viewE_nil))))))) rfl rfl) ⟨i25 + 1, told6, ask7, (by omega), rfl, (by omega), hL_57, rfl⟩

theorem f67_ok (a0 : List TThing) (b1 : List TThing) (R : Bool) (hR : F67_crossroadsref21_Things a0 b1 = R) : FnOk Try.prog 67 [.ro 2 (a0.map TThing.c), .ro 2 (b1.map TThing.c)] [] 0 (.bool R) [] 0 := by
 refine FnOk.wk i67 rfl rfl ?_
 unfold F67_crossroadsref21_Things at hR
 change WK _ _ _ [ac67] _ ⟨[(0, .ro 2 (a0.map TThing.c)), (1, .ro 2 (b1.map TThing.c))], [], 0⟩
 unfold ac67
 refine WK.sr mixed ?_
 refine GX.m rfl ?_
 refine GX.done ?_
 refine WK.seq ?_
 refine WK.sr mixed ?_
 refine GX.m rfl ?_
 refine GX.pure (v' := .int .i64 (a0.length : Int)) rfl rfl rfl rfl (len_map _ _) ?_
 refine GX.m rfl ?_
 refine GX.pure (v' := .int .i64 (b1.length : Int)) rfl rfl rfl rfl (len_map _ _) ?_
 refine GX.q (.bool (!decide ((a0.length : Int) = (b1.length : Int)))) ?_
 refine GX.done ?_
 rcases bool_two (decide ((a0.length : Int) = (b1.length : Int))) with hb1 | hb1
 ·rw [hb1]; try simp only [hb1, cond_true, cond_false, Bool.true_and, Bool.false_and, Bool.true_or, Bool.false_or, Bool.not_true, Bool.not_false] at hR
  refine WK.condT rfl ?_
  refine WK.sr mixed ?_
  refine GX.m rfl ?_
  refine GX.done ?_
  refine WK.ret ?_
  subst hR
  exact RetQ.fr [] (.inr rfl) rfl rfl rfl rfl
 ·rw [hb1]; try simp only [hb1, cond_true, cond_false, Bool.true_and, Bool.false_and, Bool.true_or, Bool.false_or, Bool.not_true, Bool.not_false] at hR
  refine WK.condF rfl ?_
  refine WK.skip ?_
  refine WK.seq ?_
  refine WK.sr mixed ?_
  refine GX.m rfl ?_
  refine GX.done ?_
  refine WK.len (t := 0) rfl (by simp) (fun hlen_2 => ?_)
  rw [List.length_map] at hlen_2
  generalize hZ_2 : F67_crossroadsref21_Things_l1 b1 0 a0 = Z_2 at hR
  refine WK.forK (fun k s => ∃ (i5 : Nat), i5 ≤ a0.length ∧ k = a0.length - i5 ∧ F67_crossroadsref21_Things_l1 b1 i5 (a0.drop i5) = Z_2 ∧ s = ⟨[(0, .ro 2 (a0.map TThing.c)), (1, .ro 2 (b1.map TThing.c)), (5, .int .i64 (i5 : Int))], [], 0⟩) a0.length ⟨⟨[(0, .ro 2 (a0.map TThing.c)), (1, .ro 2 (b1.map TThing.c)), (5, .int .i64 (0 : Int))], [], 0⟩, Conv.keep [] [] [0, 1, 5] rfl rfl (viewE_cons rfl rfl (viewE_cons rfl rfl (viewE_cons rfl rfl viewE_nil))) rfl rfl, 0, (by omega), rfl, hZ_2, rfl⟩ ?_
  rintro _ _ ⟨i5, hi_2, rfl, hL_2, rfl⟩ again_2 out_2 Q_2 hagain_2 hout_2 hQ_2
  refine WK.seq ?_
  refine WK.sr mixed ?_
  refine GX.m rfl ?_
  refine GX.m rfl ?_
  refine GX.pure (v' := .int .i64 (a0.length : Int)) rfl rfl rfl rfl (len_map _ _) ?_
  refine GX.q (.bool (decide ((i5 : Int) < (a0.length : Int)))) ?_
  refine GX.done ?_
  rcases bool_two (decide ((i5 : Int) < (a0.length : Int))) with hb3 | hb3
  ·rw [hb3]
   rw [drop_end hb3, F67_crossroadsref21_Things_l1] at hL_2
   refine WK.condF rfl ?_
   refine WK.exit ?_
   refine QF.exit (hout_2 _ ?_)
   subst hL_2
   try dsimp only [cond_true, cond_false] at hR
   refine WK.sr mixed ?_
   refine GX.m rfl ?_
   refine GX.done ?_
   refine WK.ret ?_
   subst hR
   exact RetQ.fr [] (.inr rfl) rfl rfl rfl rfl
  ·rw [hb3]
   obtain ⟨x5, hx2, hd2, hlt2⟩ := drop_more hb3
   rw [hd2, F67_crossroadsref21_Things_l1] at hL_2
   refine WK.condT rfl ?_
   refine WK.skip ?_
   refine WK.seq ?_
   refine WK.blockK (fun _ hK4 => ?_)
   refine WK.seq ?_
   refine WK.drawn mixed ?_
   refine RD.m rfl ?_
   refine RD.m rfl ?_
   refine RD.idxT (c := TThing.c) (x := x5) rfl rfl rfl (Int.natCast_nonneg _) hx2 ?_
   refine RD.q (.rptr (TThing.c x5)) ?_
   refine RD.q (.int .i64 x5.Kind) ?_
   refine RD.m rfl ?_
   refine RD.m rfl ?_
   refine RD.idxT (c := TThing.c) (x := (b1.getD i5 default)) rfl rfl rfl (Int.natCast_nonneg _) (getD_at (by ((try simp only [decide_eq_true_eq] at *); first | omega | (rw [wrap64_of (by omega) (by omega)]; omega)))) ?_
   refine RD.q (.rptr [.int .i64 ((b1.getD i5 default).Kind), .ro 1 (((b1.getD i5 default).B).map c_u8)]) ?_
   refine RD.q (.int .i64 ((b1.getD i5 default).Kind)) ?_
   refine RD.q (.bool (!decide (x5.Kind = (b1.getD i5 default).Kind))) ?_
   refine RD.m rfl ?_
   rcases bool_two (decide (x5.Kind = (b1.getD i5 default).Kind)) with hb5 | hb5
   ·rw [hb5]; try simp only [hb5, cond_true, cond_false, Bool.true_and, Bool.false_and, Bool.true_or, Bool.false_or, Bool.not_true, Bool.not_false] at hL_2
    refine RD.skip rfl rfl ?_
    refine RD.skip rfl rfl ?_
    refine RD.skip rfl rfl ?_
    refine RD.skip rfl rfl ?_
    refine RD.skip rfl rfl ?_
    refine RD.skip rfl rfl ?_
    refine RD.skip rfl rfl ?_
    refine RD.skip rfl rfl ?_
    refine RD.skip rfl rfl ?_
    refine RD.skip rfl rfl ?_
    refine RD.skip rfl rfl ?_
    refine RD.skip rfl rfl ?_
    refine RD.skip rfl rfl ?_
    refine RD.q (.bool true) ?_
    refine RD.doneB [0, 0, 3, 7, 15, 0, 0, 96, 224, 480, 1023, 2047, 4095, 4095, 16383, 32767, 65535, 131071, 4095, 4095, 790527, 1839103, 3936255, 8130559, 16777215, 33554431] (by kernel_rfl) (by kernel_rfl) (by kernel_rfl) ?_
    refine WK.condT rfl ?_
    refine WK.sr mixed ?_
    refine GX.m rfl ?_
    refine GX.done ?_
    refine WK.ret ?_
    refine QF.ret ?_
    refine QF.ret (hQ_2 _ _ ?_)
    subst hL_2
    subst hR
    exact RetQ.fr [] (.inr rfl) rfl rfl rfl rfl
   ·rw [hb5]; try simp only [hb5, cond_true, cond_false, Bool.true_and, Bool.false_and, Bool.true_or, Bool.false_or, Bool.not_true, Bool.not_false] at hL_2
    refine RD.m rfl ?_
    refine RD.m rfl ?_
    refine RD.idxT (c := TThing.c) (x := x5) rfl rfl rfl (Int.natCast_nonneg _) hx2 ?_
    refine RD.q (.rptr [.ro 1 (x5.B.map c_u8)]) ?_
    refine RD.q (.ro 1 (x5.B.map c_u8)) ?_
    refine RD.pure (v' := .str (strNums x5.B)) rfl rfl rfl (core_bstrT (L := x5.B) elems_ro) rfl ?_
    refine RD.m rfl ?_
    refine RD.m rfl ?_
    refine RD.idxT (c := TThing.c) (x := (b1.getD i5 default)) rfl rfl rfl (Int.natCast_nonneg _) (getD_at (by ((try simp only [decide_eq_true_eq] at *); first | omega | (rw [wrap64_of (by omega) (by omega)]; omega)))) ?_
    refine RD.q (.rptr [.ro 1 (((b1.getD i5 default).B).map c_u8)]) ?_
    refine RD.q (.ro 1 (((b1.getD i5 default).B).map c_u8)) ?_
    refine RD.pure (v' := .str (strNums ((b1.getD i5 default).B))) rfl rfl rfl (core_bstrT (L := (b1.getD i5 default).B) elems_ro) rfl ?_
    refine RD.q (.bool (!((strNums x5.B).toList == (strNums ((b1.getD i5 default).B)).toList))) ?_
    refine RD.q (.bool (!((strNums x5.B).toList == (strNums ((b1.getD i5 default).B)).toList))) ?_
    refine RD.doneB [0, 0, 3, 7, 15, 0, 0, 96, 224, 480, 1023, 2047, 4095, 4095, 16383, 32767, 65535, 131071, 4095, 4095, 790527, 1839103, 3936255, 8130559, 16777215, 33554431] (by kernel_rfl) (by kernel_rfl) (by kernel_rfl) ?_
    rcases bool_two ((strNums x5.B).toList == (strNums ((b1.getD i5 default).B)).toList) with hb6 | hb6
    ·rw [hb6]; try simp only [hb6, cond_true, cond_false, Bool.true_and, Bool.false_and, Bool.true_or, Bool.false_or, Bool.not_true, Bool.not_false] at hL_2
     refine WK.condT rfl ?_
     refine WK.sr mixed ?_
     refine GX.m rfl ?_
     refine GX.done ?_
     refine WK.ret ?_
     refine QF.ret ?_
     refine QF.ret (hQ_2 _ _ ?_)
     subst hL_2
     subst hR
     exact RetQ.fr [] (.inr rfl) rfl rfl rfl rfl
    ·rw [hb6]; try simp only [hb6, cond_true, cond_false, Bool.true_and, Bool.false_and, Bool.true_or, Bool.false_or, Bool.not_true, Bool.not_false] at hL_2
     refine WK.condF rfl ?_
     refine WK.skip ?_
     refine WK.nil (QF.normal (hK4 _ ?_))
     refine WK.regx mixed ?_
     refine GX.m rfl ?_
     refine GX.pure (v' := .int .i64 ((i5 + 1 : Nat) : Int)) rfl rfl rfl rfl (congrArg (PVal.int .i64) (wrap_up hlt2 hlen_2)) ?_
     refine GX.m rfl ?_
     refine GX.done ?_
     refine WK.nil (QF.normal ?_)
     exact hagain_2 _ (a0.length - (i5 + 1)) ⟨[(0, .ro 2 (a0.map TThing.c)), (1, .ro 2 (b1.map TThing.c)), (5, .int .i64 ((i5 + 1) : Int))], [], 0⟩ (by omega) (Conv.keep [] [] [0, 1, 5] rfl rfl (viewE_cons rfl rfl (viewE_cons rfl rfl (viewE_cons rfl rfl viewE_nil))) rfl rfl) ⟨i5 + 1, (by omega), rfl, hL_2, rfl⟩

theorem f52_ok (a0 : TLsp) (b1 : TLsp) (R : Bool) (hR : F52_crossroadsref22_SameLsp a0 b1 = R) : FnOk Try.prog 52 [.agg (TLsp.c a0), .agg (TLsp.c b1)] [] 0 (.bool R) [] 0 := by
 refine FnOk.wk i52 rfl rfl ?_
 unfold F52_crossroadsref22_SameLsp at hR
 change WK _ _ _ [ac52] _ ⟨[(0, .agg (TLsp.c a0)), (1, .agg (TLsp.c b1))], [], 0⟩
 unfold ac52
 refine WK.sr mixed ?_
 refine GX.step (v' := .ptr 0 0) (heap' := [(0, .box (TLsp.c a0))]) (next' := 1) rfl rfl rfl rfl rfl rfl rfl ?_
 refine GX.step (v' := .ptr 1 0) (heap' := [(0, .box (TLsp.c a0)), (1, .box (TLsp.c b1))]) (next' := 2) rfl rfl rfl rfl rfl rfl rfl ?_
 refine GX.m rfl ?_
 refine GX.done ?_
 refine WK.sr mixed ?_
 refine GX.q (.ptr 0 0) ?_
 refine GX.q (.int .i64 a0.Level) ?_
 refine GX.q (.ptr 1 0) ?_
 refine GX.q (.int .i64 b1.Level) ?_
 refine GX.q (.bool (decide (a0.Level = b1.Level))) ?_
 refine GX.m rfl ?_
 rcases bool_two (decide (a0.Level = b1.Level)) with hb1 | hb1
 ·rw [hb1]; try simp only [hb1, cond_true, cond_false, Bool.true_and, Bool.false_and, Bool.true_or, Bool.false_or, Bool.not_true, Bool.not_false] at hR
  refine GX.skip rfl rfl ?_
  refine GX.skip rfl rfl ?_
  refine GX.skip rfl rfl ?_
  refine GX.skip rfl rfl ?_
  refine GX.skip rfl rfl ?_
  refine GX.q (.bool false) ?_
  refine GX.m rfl ?_
  refine GX.skip rfl rfl ?_
  refine GX.skip rfl rfl ?_
  refine GX.skip rfl rfl ?_
  refine GX.skip rfl rfl ?_
  refine GX.skip rfl rfl ?_
  refine GX.q (.bool false) ?_
  refine GX.m rfl ?_
  refine GX.skip rfl rfl ?_
  refine GX.skip rfl rfl ?_
  refine GX.skip rfl rfl ?_
  refine GX.skip rfl rfl ?_
  refine GX.skip rfl rfl ?_
  refine GX.q (.bool false) ?_
  refine GX.m rfl ?_
  refine GX.skip rfl rfl ?_
  refine GX.skip rfl rfl ?_
  refine GX.skip rfl rfl ?_
  refine GX.skip rfl rfl ?_
  refine GX.skip rfl rfl ?_
  refine GX.q (.bool false) ?_
  refine GX.m rfl ?_
  refine GX.skip rfl rfl ?_
  refine GX.skip rfl rfl ?_
  refine GX.skip rfl rfl ?_
  refine GX.skip rfl rfl ?_
  refine GX.skip rfl rfl ?_
  refine GX.q (.bool false) ?_
  refine GX.m rfl ?_
  refine GX.skip rfl rfl ?_
  refine GX.skip rfl rfl ?_
  refine GX.skip rfl rfl ?_
  refine GX.skip rfl rfl ?_
  refine GX.skip rfl rfl ?_
  refine GX.q (.bool false) ?_
  refine GX.m rfl ?_
  refine GX.done ?_
  refine WK.ret ?_
  subst hR
  exact RetQ.fr [] (.inr rfl) rfl rfl rfl rfl
 ·rw [hb1]; try simp only [hb1, cond_true, cond_false, Bool.true_and, Bool.false_and, Bool.true_or, Bool.false_or, Bool.not_true, Bool.not_false] at hR
  refine GX.q (.ptr 0 1) ?_
  refine GX.q (.int .i64 a0.Life) ?_
  refine GX.q (.ptr 1 1) ?_
  refine GX.q (.int .i64 b1.Life) ?_
  refine GX.q (.bool (decide (a0.Life = b1.Life))) ?_
  refine GX.q (.bool (decide (a0.Life = b1.Life))) ?_
  refine GX.m rfl ?_
  rcases bool_two (decide (a0.Life = b1.Life)) with hb2 | hb2
  ·rw [hb2]; try simp only [hb2, cond_true, cond_false, Bool.true_and, Bool.false_and, Bool.true_or, Bool.false_or, Bool.not_true, Bool.not_false] at hR
   refine GX.skip rfl rfl ?_
   refine GX.skip rfl rfl ?_
   refine GX.skip rfl rfl ?_
   refine GX.skip rfl rfl ?_
   refine GX.skip rfl rfl ?_
   refine GX.q (.bool false) ?_
   refine GX.m rfl ?_
   refine GX.skip rfl rfl ?_
   refine GX.skip rfl rfl ?_
   refine GX.skip rfl rfl ?_
   refine GX.skip rfl rfl ?_
   refine GX.skip rfl rfl ?_
   refine GX.q (.bool false) ?_
   refine GX.m rfl ?_
   refine GX.skip rfl rfl ?_
   refine GX.skip rfl rfl ?_
   refine GX.skip rfl rfl ?_
   refine GX.skip rfl rfl ?_
   refine GX.skip rfl rfl ?_
   refine GX.q (.bool false) ?_
   refine GX.m rfl ?_
   refine GX.skip rfl rfl ?_
   refine GX.skip rfl rfl ?_
   refine GX.skip rfl rfl ?_
   refine GX.skip rfl rfl ?_
   refine GX.skip rfl rfl ?_
   refine GX.q (.bool false) ?_
   refine GX.m rfl ?_
   refine GX.skip rfl rfl ?_
   refine GX.skip rfl rfl ?_
   refine GX.skip rfl rfl ?_
   refine GX.skip rfl rfl ?_
   refine GX.skip rfl rfl ?_
   refine GX.q (.bool false) ?_
   refine GX.m rfl ?_
   refine GX.done ?_
   refine WK.ret ?_
   subst hR
   exact RetQ.fr [] (.inr rfl) rfl rfl rfl rfl
  ·rw [hb2]; try simp only [hb2, cond_true, cond_false, Bool.true_and, Bool.false_and, Bool.true_or, Bool.false_or, Bool.not_true, Bool.not_false] at hR
   refine GX.q (.ptr 0 2) ?_
   refine GX.q (.int .u64 a0.ID) ?_
   refine GX.q (.ptr 1 2) ?_
   refine GX.q (.int .u64 b1.ID) ?_
   refine GX.q (.bool (decide (a0.ID = b1.ID))) ?_
   refine GX.q (.bool (decide (a0.ID = b1.ID))) ?_
   refine GX.m rfl ?_
   rcases bool_two (decide (a0.ID = b1.ID)) with hb3 | hb3
   ·rw [hb3]; try simp only [hb3, cond_true, cond_false, Bool.true_and, Bool.false_and, Bool.true_or, Bool.false_or, Bool.not_true, Bool.not_false] at hR
    refine GX.skip rfl rfl ?_
    refine GX.skip rfl rfl ?_
    refine GX.skip rfl rfl ?_
    refine GX.skip rfl rfl ?_
    refine GX.skip rfl rfl ?_
    refine GX.q (.bool false) ?_
    refine GX.m rfl ?_
    refine GX.skip rfl rfl ?_
    refine GX.skip rfl rfl ?_
    refine GX.skip rfl rfl ?_
    refine GX.skip rfl rfl ?_
    refine GX.skip rfl rfl ?_
    refine GX.q (.bool false) ?_
    refine GX.m rfl ?_
    refine GX.skip rfl rfl ?_
    refine GX.skip rfl rfl ?_
    refine GX.skip rfl rfl ?_
    refine GX.skip rfl rfl ?_
    refine GX.skip rfl rfl ?_
    refine GX.q (.bool false) ?_
    refine GX.m rfl ?_
    refine GX.skip rfl rfl ?_
    refine GX.skip rfl rfl ?_
    refine GX.skip rfl rfl ?_
    refine GX.skip rfl rfl ?_
    refine GX.skip rfl rfl ?_
    refine GX.q (.bool false) ?_
    refine GX.m rfl ?_
    refine GX.done ?_
    refine WK.ret ?_
    subst hR
    exact RetQ.fr [] (.inr rfl) rfl rfl rfl rfl
   ·rw [hb3]; try simp only [hb3, cond_true, cond_false, Bool.true_and, Bool.false_and, Bool.true_or, Bool.false_or, Bool.not_true, Bool.not_false] at hR
    refine GX.q (.ptr 0 3) ?_
    refine GX.q (.int .u32 a0.Seq) ?_
    refine GX.q (.ptr 1 3) ?_
    refine GX.q (.int .u32 b1.Seq) ?_
    refine GX.q (.bool (decide (a0.Seq = b1.Seq))) ?_
    refine GX.q (.bool (decide (a0.Seq = b1.Seq))) ?_
    refine GX.m rfl ?_
    rcases bool_two (decide (a0.Seq = b1.Seq)) with hb4 | hb4
    ·rw [hb4]; try simp only [hb4, cond_true, cond_false, Bool.true_and, Bool.false_and, Bool.true_or, Bool.false_or, Bool.not_true, Bool.not_false] at hR
     refine GX.skip rfl rfl ?_
     refine GX.skip rfl rfl ?_
     refine GX.skip rfl rfl ?_
     refine GX.skip rfl rfl ?_
     refine GX.skip rfl rfl ?_
     refine GX.q (.bool false) ?_
     refine GX.m rfl ?_
     refine GX.skip rfl rfl ?_
     refine GX.skip rfl rfl ?_
     refine GX.skip rfl rfl ?_
     refine GX.skip rfl rfl ?_
     refine GX.skip rfl rfl ?_
     refine GX.q (.bool false) ?_
     refine GX.m rfl ?_
     refine GX.skip rfl rfl ?_
     refine GX.skip rfl rfl ?_
     refine GX.skip rfl rfl ?_
     refine GX.skip rfl rfl ?_
     refine GX.skip rfl rfl ?_
     refine GX.q (.bool false) ?_
     refine GX.m rfl ?_
     refine GX.done ?_
     refine WK.ret ?_
     subst hR
     exact RetQ.fr [] (.inr rfl) rfl rfl rfl rfl
    ·rw [hb4]; try simp only [hb4, cond_true, cond_false, Bool.true_and, Bool.false_and, Bool.true_or, Bool.false_or, Bool.not_true, Bool.not_false] at hR
     refine GX.q (.ptr 0 4) ?_
     refine GX.q (.int .i64 a0.Sum) ?_
     refine GX.q (.ptr 1 4) ?_
     refine GX.q (.int .i64 b1.Sum) ?_
     refine GX.q (.bool (decide (a0.Sum = b1.Sum))) ?_
     refine GX.q (.bool (decide (a0.Sum = b1.Sum))) ?_
     refine GX.m rfl ?_
     rcases bool_two (decide (a0.Sum = b1.Sum)) with hb5 | hb5
     ·rw [hb5]; try simp only [hb5, cond_true, cond_false, Bool.true_and, Bool.false_and, Bool.true_or, Bool.false_or, Bool.not_true, Bool.not_false] at hR
      refine GX.skip rfl rfl ?_
      refine GX.skip rfl rfl ?_
      refine GX.skip rfl rfl ?_
      refine GX.skip rfl rfl ?_
      refine GX.skip rfl rfl ?_
      refine GX.q (.bool false) ?_
      refine GX.m rfl ?_
      refine GX.skip rfl rfl ?_
      refine GX.skip rfl rfl ?_
      refine GX.skip rfl rfl ?_
      refine GX.skip rfl rfl ?_
      refine GX.skip rfl rfl ?_
      refine GX.q (.bool false) ?_
      refine GX.m rfl ?_
      refine GX.done ?_
      refine WK.ret ?_
      subst hR
      exact RetQ.fr [] (.inr rfl) rfl rfl rfl rfl
     ·rw [hb5]; try simp only [hb5, cond_true, cond_false, Bool.true_and, Bool.false_and, Bool.true_or, Bool.false_or, Bool.not_true, Bool.not_false] at hR
      refine GX.q (.ptr 0 5) ?_
      refine GX.q (.int .i64 a0.Bits) ?_
      refine GX.q (.ptr 1 5) ?_
      refine GX.q (.int .i64 b1.Bits) ?_
      refine GX.q (.bool (decide (a0.Bits = b1.Bits))) ?_
      refine GX.q (.bool (decide (a0.Bits = b1.Bits))) ?_
      refine GX.m rfl ?_
      rcases bool_two (decide (a0.Bits = b1.Bits)) with hb6 | hb6
      ·rw [hb6]; try simp only [hb6, cond_true, cond_false, Bool.true_and, Bool.false_and, Bool.true_or, Bool.false_or, Bool.not_true, Bool.not_false] at hR
       refine GX.skip rfl rfl ?_
       refine GX.skip rfl rfl ?_
       refine GX.skip rfl rfl ?_
       refine GX.skip rfl rfl ?_
       refine GX.skip rfl rfl ?_
       refine GX.q (.bool false) ?_
       refine GX.m rfl ?_
       refine GX.done ?_
       refine WK.ret ?_
       subst hR
       exact RetQ.fr [] (.inr rfl) rfl rfl rfl rfl
      ·rw [hb6]; try simp only [hb6, cond_true, cond_false, Bool.true_and, Bool.false_and, Bool.true_or, Bool.false_or, Bool.not_true, Bool.not_false] at hR
       refine GX.q (.ptr 0 6) ?_
       refine GX.q (.ro 2 (a0.Things.map TThing.c)) ?_
       refine GX.q (.ptr 1 6) ?_
       refine GX.q (.ro 2 (b1.Things.map TThing.c)) ?_
       generalize hc50 : F67_crossroadsref21_Things a0.Things b1.Things = c50 at hR
       try dsimp only at hR
       refine GX.callp (r := .bool c50) rfl rfl rfl (f67_ok a0.Things b1.Things _ hc50) rfl rfl ?_
       refine GX.q (.bool c50) ?_
       refine GX.m rfl ?_
       refine GX.done ?_
       refine WK.ret ?_
       subst hR
       exact RetQ.fr [] (.inr rfl) rfl rfl rfl rfl

theorem f22_ok (a0 : TBase) (b1 : TBase) (R : Bool) (hR : F22_crossroadsref23_Same a0 b1 = R) : FnOk Try.prog 22 [.agg (TBase.c a0), .agg (TBase.c b1)] [] 0 (.bool R) [] 0 := by
 refine FnOk.wk i22 rfl rfl ?_
 unfold F22_crossroadsref23_Same at hR
 change WK _ _ _ [ac22] _ ⟨[(0, .agg (TBase.c a0)), (1, .agg (TBase.c b1))], [], 0⟩
 unfold ac22
 refine WK.sr mixed ?_
 refine GX.step (v' := .ptr 0 0) (heap' := [(0, .box (TBase.c a0))]) (next' := 1) rfl rfl rfl rfl rfl rfl rfl ?_
 refine GX.step (v' := .ptr 1 0) (heap' := [(0, .box (TBase.c a0)), (1, .box (TBase.c b1))]) (next' := 2) rfl rfl rfl rfl rfl rfl rfl ?_
 refine GX.m rfl ?_
 refine GX.done ?_
 refine WK.seq ?_
 refine WK.sr mixed ?_
 refine GX.q (.ptr 0 0) ?_
 refine GX.q (.int .i64 a0.Level) ?_
 refine GX.q (.ptr 1 0) ?_
 refine GX.q (.int .i64 b1.Level) ?_
 refine GX.q (.bool (!decide (a0.Level = b1.Level))) ?_
 refine GX.m rfl ?_
 rcases bool_two (decide (a0.Level = b1.Level)) with hb1 | hb1
 ·rw [hb1]; try simp only [hb1, cond_true, cond_false, Bool.true_and, Bool.false_and, Bool.true_or, Bool.false_or, Bool.not_true, Bool.not_false] at hR
  refine GX.skip rfl rfl ?_
  refine GX.skip rfl rfl ?_
  refine GX.skip rfl rfl ?_
  refine GX.skip rfl rfl ?_
  refine GX.skip rfl rfl ?_
  refine GX.q (.bool true) ?_
  refine GX.m rfl ?_
  refine GX.skip rfl rfl ?_
  refine GX.skip rfl rfl ?_
  refine GX.skip rfl rfl ?_
  refine GX.skip rfl rfl ?_
  refine GX.skip rfl rfl ?_
  refine GX.q (.bool true) ?_
  refine GX.m rfl ?_
  refine GX.skip rfl rfl ?_
  refine GX.skip rfl rfl ?_
  refine GX.skip rfl rfl ?_
  refine GX.skip rfl rfl ?_
  refine GX.skip rfl rfl ?_
  refine GX.skip rfl rfl ?_
  refine GX.skip rfl rfl ?_
  refine GX.q (.bool true) ?_
  refine GX.done ?_
  refine WK.condT rfl ?_
  refine WK.sr mixed ?_
  refine GX.m rfl ?_
  refine GX.done ?_
  refine WK.ret ?_
  subst hR
  exact RetQ.fr [] (.inr rfl) rfl rfl rfl rfl
 ·rw [hb1]; try simp only [hb1, cond_true, cond_false, Bool.true_and, Bool.false_and, Bool.true_or, Bool.false_or, Bool.not_true, Bool.not_false] at hR
  refine GX.q (.ptr 0 1) ?_
  refine GX.q (.int .i64 a0.Max) ?_
  refine GX.q (.ptr 1 1) ?_
  refine GX.q (.int .i64 b1.Max) ?_
  refine GX.q (.bool (!decide (a0.Max = b1.Max))) ?_
  refine GX.q (.bool (!decide (a0.Max = b1.Max))) ?_
  refine GX.m rfl ?_
  rcases bool_two (decide (a0.Max = b1.Max)) with hb2 | hb2
  ·rw [hb2]; try simp only [hb2, cond_true, cond_false, Bool.true_and, Bool.false_and, Bool.true_or, Bool.false_or, Bool.not_true, Bool.not_false] at hR
   refine GX.skip rfl rfl ?_
   refine GX.skip rfl rfl ?_
   refine GX.skip rfl rfl ?_
   refine GX.skip rfl rfl ?_
   refine GX.skip rfl rfl ?_
   refine GX.q (.bool true) ?_
   refine GX.m rfl ?_
   refine GX.skip rfl rfl ?_
   refine GX.skip rfl rfl ?_
   refine GX.skip rfl rfl ?_
   refine GX.skip rfl rfl ?_
   refine GX.skip rfl rfl ?_
   refine GX.skip rfl rfl ?_
   refine GX.skip rfl rfl ?_
   refine GX.q (.bool true) ?_
   refine GX.done ?_
   refine WK.condT rfl ?_
   refine WK.sr mixed ?_
   refine GX.m rfl ?_
   refine GX.done ?_
   refine WK.ret ?_
   subst hR
   exact RetQ.fr [] (.inr rfl) rfl rfl rfl rfl
  ·rw [hb2]; try simp only [hb2, cond_true, cond_false, Bool.true_and, Bool.false_and, Bool.true_or, Bool.false_or, Bool.not_true, Bool.not_false] at hR
   refine GX.q (.ptr 0 3) ?_
   refine GX.q (.bool a0.Over) ?_
   refine GX.q (.ptr 1 3) ?_
   refine GX.q (.bool b1.Over) ?_
   refine GX.q (.bool (!(a0.Over == b1.Over))) ?_
   refine GX.q (.bool (!(a0.Over == b1.Over))) ?_
   refine GX.m rfl ?_
   rcases bool_two (a0.Over == b1.Over) with hb3 | hb3
   ·rw [hb3]; try simp only [hb3, cond_true, cond_false, Bool.true_and, Bool.false_and, Bool.true_or, Bool.false_or, Bool.not_true, Bool.not_false] at hR
    refine GX.skip rfl rfl ?_
    refine GX.skip rfl rfl ?_
    refine GX.skip rfl rfl ?_
    refine GX.skip rfl rfl ?_
    refine GX.skip rfl rfl ?_
    refine GX.skip rfl rfl ?_
    refine GX.skip rfl rfl ?_
    refine GX.q (.bool true) ?_
    refine GX.done ?_
    refine WK.condT rfl ?_
    refine WK.sr mixed ?_
    refine GX.m rfl ?_
    refine GX.done ?_
    refine WK.ret ?_
    subst hR
    exact RetQ.fr [] (.inr rfl) rfl rfl rfl rfl
   ·rw [hb3]; try simp only [hb3, cond_true, cond_false, Bool.true_and, Bool.false_and, Bool.true_or, Bool.false_or, Bool.not_true, Bool.not_false] at hR
    refine GX.q (.ptr 0 2) ?_
    refine GX.q (.ro 7 (a0.L.map TLsp.c)) ?_
    refine GX.pure (v' := .int .i64 (a0.L.length : Int)) rfl rfl rfl rfl (len_map _ _) ?_
    refine GX.q (.ptr 1 2) ?_
    refine GX.q (.ro 7 (b1.L.map TLsp.c)) ?_
    refine GX.pure (v' := .int .i64 (b1.L.length : Int)) rfl rfl rfl rfl (len_map _ _) ?_
    refine GX.q (.bool (!decide ((a0.L.length : Int) = (b1.L.length : Int)))) ?_
    refine GX.q (.bool (!decide ((a0.L.length : Int) = (b1.L.length : Int)))) ?_
    refine GX.done ?_
    rcases bool_two (decide ((a0.L.length : Int) = (b1.L.length : Int))) with hb4 | hb4
    ·rw [hb4]; try simp only [hb4, cond_true, cond_false, Bool.true_and, Bool.false_and, Bool.true_or, Bool.false_or, Bool.not_true, Bool.not_false] at hR
     refine WK.condT rfl ?_
     refine WK.sr mixed ?_
     refine GX.m rfl ?_
     refine GX.done ?_
     refine WK.ret ?_
     subst hR
     exact RetQ.fr [] (.inr rfl) rfl rfl rfl rfl
    ·rw [hb4]; try simp only [hb4, cond_true, cond_false, Bool.true_and, Bool.false_and, Bool.true_or, Bool.false_or, Bool.not_true, Bool.not_false] at hR
     refine WK.condF rfl ?_
     refine WK.skip ?_
     refine WK.seq ?_
     refine WK.sr mixed ?_
     refine GX.m rfl ?_
     refine GX.done ?_
     refine WK.len (t := 27) rfl (by simp) (fun hlen_5 => ?_)
     rw [List.length_map] at hlen_5
     generalize hZ_5 : F22_crossroadsref23_Same_l1 b1 0 a0.L = Z_5 at hR
     refine WK.forK (fun k s => ∃ (i5 : Nat), i5 ≤ a0.L.length ∧ k = a0.L.length - i5 ∧ F22_crossroadsref23_Same_l1 b1 i5 (a0.L.drop i5) = Z_5 ∧ s = ⟨[(2, .ptr 0 0), (3, .ptr 1 0), (5, .int .i64 (i5 : Int))], [(0, .box (TBase.c a0)), (1, .box (TBase.c b1))], 2⟩) a0.L.length ⟨⟨[(2, .ptr 0 0), (3, .ptr 1 0), (5, .int .i64 (0 : Int))], [(0, .box (TBase.c a0)), (1, .box (TBase.c b1))], 2⟩, Conv.keep [0, 1] [] [2, 3, 5] rfl rfl (viewE_cons rfl rfl (viewE_cons rfl rfl (viewE_cons rfl rfl viewE_nil))) rfl rfl, 0, (by omega), rfl, hZ_5, rfl⟩ ?_
     rintro _ _ ⟨i5, hi_5, rfl, hL_5, rfl⟩ again_5 out_5 Q_5 hagain_5 hout_5 hQ_5
     refine WK.seq ?_
     refine WK.sr mixed ?_
     refine GX.m rfl ?_
     refine GX.q (.ptr 0 2) ?_
     refine GX.q (.ro 7 (a0.L.map TLsp.c)) ?_
     refine GX.pure (v' := .int .i64 (a0.L.length : Int)) rfl rfl rfl rfl (len_map _ _) ?_
     refine GX.q (.bool (decide ((i5 : Int) < (a0.L.length : Int)))) ?_
     refine GX.done ?_
     rcases bool_two (decide ((i5 : Int) < (a0.L.length : Int))) with hb6 | hb6
     ·rw [hb6]
      rw [drop_end hb6, F22_crossroadsref23_Same_l1] at hL_5
      refine WK.condF rfl ?_
      refine WK.exit ?_
      refine QF.exit (hout_5 _ ?_)
      subst hL_5
      try dsimp only [cond_true, cond_false] at hR
      refine WK.sr mixed ?_
      refine GX.m rfl ?_
      refine GX.done ?_
      refine WK.ret ?_
      subst hR
      exact RetQ.fr [] (.inr rfl) rfl rfl rfl rfl
     ·rw [hb6]
      obtain ⟨x5, hx5, hd5, hlt5⟩ := drop_more hb6
      rw [hd5, F22_crossroadsref23_Same_l1] at hL_5
      refine WK.condT rfl ?_
      refine WK.skip ?_
      refine WK.seq ?_
      refine WK.blockK (fun _ hK7 => ?_)
      refine WK.seq ?_
      refine WK.drawn mixed ?_
      refine RD.q (.ptr 0 2) ?_
      refine RD.q (.ro 7 (a0.L.map TLsp.c)) ?_
      refine RD.m rfl ?_
      refine RD.idxT (c := TLsp.c) (x := x5) rfl rfl rfl (Int.natCast_nonneg _) hx5 ?_
      refine RD.q (.agg (TLsp.c x5)) ?_
      refine RD.q (.ptr 1 2) ?_
      refine RD.q (.ro 7 (b1.L.map TLsp.c)) ?_
      refine RD.m rfl ?_
      refine RD.idxT (c := TLsp.c) (x := (b1.L.getD i5 default)) rfl rfl rfl (Int.natCast_nonneg _) (getD_at (by ((try simp only [decide_eq_true_eq] at *); first | omega | (rw [wrap64_of (by omega) (by omega)]; omega)))) ?_
      refine RD.q (.agg [.int .i64 ((b1.L.getD i5 default).Level), .int .i64 ((b1.L.getD i5 default).Life), .int .u64 ((b1.L.getD i5 default).ID), .int .u32 ((b1.L.getD i5 default).Seq), .int .i64 ((b1.L.getD i5 default).Sum), .int .i64 ((b1.L.getD i5 default).Bits), .ro 2 (((b1.L.getD i5 default).Things).map TThing.c)]) ?_
      generalize hc51 : F52_crossroadsref22_SameLsp x5 (b1.L.getD i5 default) = c51 at hL_5
      try dsimp only at hL_5
      refine RD.callp (r := .bool c51) rfl rfl rfl (f52_ok x5 (b1.L.getD i5 default) _ hc51) rfl rfl ?_
      refine RD.q (.bool (!c51)) ?_
      refine RD.done rfl ?_
      rcases bool_two (c51) with hb8 | hb8
      ·rw [hb8]; try simp only [hb8, cond_true, cond_false, Bool.true_and, Bool.false_and, Bool.true_or, Bool.false_or, Bool.not_true, Bool.not_false] at hL_5
       refine WK.condT rfl ?_
       refine WK.sr mixed ?_
       refine GX.m rfl ?_
       refine GX.done ?_
       refine WK.ret ?_
       refine QF.ret ?_
       refine QF.ret (hQ_5 _ _ ?_)
       subst hL_5
       subst hR
       exact RetQ.fr [] (.inr rfl) rfl rfl rfl rfl
      ·rw [hb8]; try simp only [hb8, cond_true, cond_false, Bool.true_and, Bool.false_and, Bool.true_or, Bool.false_or, Bool.not_true, Bool.not_false] at hL_5
       refine WK.condF rfl ?_
       refine WK.skip ?_
       refine WK.nil (QF.normal (hK7 _ ?_))
       refine WK.regx mixed ?_
       refine GX.m rfl ?_
       refine GX.pure (v' := .int .i64 ((i5 + 1 : Nat) : Int)) rfl rfl rfl rfl (congrArg (PVal.int .i64) (wrap_up hlt5 hlen_5)) ?_
       refine GX.m rfl ?_
       refine GX.done ?_
       refine WK.nil (QF.normal ?_)
       exact hagain_5 _ (a0.L.length - (i5 + 1)) ⟨[(2, .ptr 0 0), (3, .ptr 1 0), (5, .int .i64 ((i5 + 1) : Int))], [(0, .box (TBase.c a0)), (1, .box (TBase.c b1))], 2⟩ (by omega) (Conv.keep [0, 1] [] [2, 3, 5] rfl rfl (viewE_cons rfl rfl (viewE_cons rfl rfl (viewE_cons rfl rfl viewE_nil))) rfl rfl) ⟨i5 + 1, (by omega), rfl, hL_5, rfl⟩

theorem f6_ok (b0 : TBase) (x1 : TLsp) (R : Bool) (hR : F6_crossroadslaw23_LinkTwice b0 x1 = R) : FnOk Try.prog 6 [.agg (TBase.c b0), .agg (TLsp.c x1)] [] 0 (.bool R) [] 0 := by
 refine FnOk.wk i6 rfl rfl ?_
 unfold F6_crossroadslaw23_LinkTwice at hR
 change WK _ _ _ [ac6] _ ⟨[(0, .agg (TBase.c b0)), (1, .agg (TLsp.c x1))], [], 0⟩
 unfold ac6
 refine WK.sr mixed ?_
 refine GX.step (v' := .ptr 0 0) (heap' := [(0, .box (TBase.c b0))]) (next' := 1) rfl rfl rfl rfl rfl rfl rfl ?_
 refine GX.step (v' := .ptr 1 0) (heap' := [(0, .box (TBase.c b0)), (1, .box (TLsp.c x1))]) (next' := 2) rfl rfl rfl rfl rfl rfl rfl ?_
 refine GX.m rfl ?_
 refine GX.done ?_
 refine WK.seq ?_
 refine WK.sr mixed ?_
 refine GX.q (.agg (TBase.c b0)) ?_
 generalize hc15 : F16_crossroadslaw23_small b0 = c15 at hR
 have hpo0_c15 := post_small b0; rw [hc15] at hpo0_c15
 have hpo1_c15 := post_small2 b0; rw [hc15] at hpo1_c15
 try dsimp only at hR
 refine GX.callp (r := .bool c15) rfl rfl rfl (f16_ok b0 _ hc15) rfl rfl ?_
 refine GX.q (.bool (!c15)) ?_
 refine GX.m rfl ?_
 rcases bool_two (c15) with hb1 | hb1
 ·rw [hb1]; try simp only [hb1, cond_true, cond_false, Bool.true_and, Bool.false_and, Bool.true_or, Bool.false_or, Bool.not_true, Bool.not_false] at hR
  refine GX.skip rfl rfl ?_
  refine GX.skip rfl rfl ?_
  refine GX.skip rfl rfl ?_
  refine GX.q (.bool true) ?_
  refine GX.done ?_
  refine WK.condT rfl ?_
  refine WK.sr mixed ?_
  generalize hc22 : F11_crossroadslaw23_alive = c22 at hR
  try dsimp only at hR
  refine GX.callp (r := .bool c22) rfl rfl rfl (f11_ok  _ hc22) rfl rfl ?_
  refine GX.m rfl ?_
  refine GX.done ?_
  refine WK.ret ?_
  subst hR
  exact RetQ.fr [] (.inr rfl) rfl rfl rfl rfl
 ·rw [hb1]; try simp only [hb1, cond_true, cond_false, Bool.true_and, Bool.false_and, Bool.true_or, Bool.false_or, Bool.not_true, Bool.not_false] at hR
  try have hq_hpo0_c15 := hpo0_c15 hb1
  try have hq_hpo1_c15 := hpo1_c15 hb1
  refine GX.q (.agg (TLsp.c x1)) ?_
  generalize hc19 : F12_crossroadslaw23_little x1 = c19 at hR
  have hpo0_c19 := post_little x1; rw [hc19] at hpo0_c19
  try dsimp only at hR
  refine GX.callp (r := .bool c19) rfl rfl rfl (f12_ok x1 _ hc19) rfl rfl ?_
  refine GX.q (.bool (!c19)) ?_
  refine GX.q (.bool (!c19)) ?_
  refine GX.done ?_
  rcases bool_two (c19) with hb2 | hb2
  ·rw [hb2]; try simp only [hb2, cond_true, cond_false, Bool.true_and, Bool.false_and, Bool.true_or, Bool.false_or, Bool.not_true, Bool.not_false] at hR
   refine WK.condT rfl ?_
   refine WK.sr mixed ?_
   generalize hc22 : F11_crossroadslaw23_alive = c22 at hR
   try dsimp only at hR
   refine GX.callp (r := .bool c22) rfl rfl rfl (f11_ok  _ hc22) rfl rfl ?_
   refine GX.m rfl ?_
   refine GX.done ?_
   refine WK.ret ?_
   subst hR
   exact RetQ.fr [] (.inr rfl) rfl rfl rfl rfl
  ·rw [hb2]; try simp only [hb2, cond_true, cond_false, Bool.true_and, Bool.false_and, Bool.true_or, Bool.false_or, Bool.not_true, Bool.not_false] at hR
   try have hq_hpo0_c19 := hpo0_c19 hb2
   refine WK.condF rfl ?_
   refine WK.skip ?_
   refine WK.sr mixed ?_
   refine GX.q (.agg (TBase.c b0)) ?_
   refine GX.q (.agg (TLsp.c x1)) ?_
   generalize hc26 : F21_link_Put b0 x1 = c26 at hR
   have hpo0_c26 := post_Put1 b0 x1 (by omega) (by omega) (by omega); rw [hc26] at hpo0_c26
   have hpo1_c26 := post_Put2 b0 x1 (by omega) (by omega) (by omega); rw [hc26] at hpo1_c26
   obtain ⟨c26a, c26b, c26c⟩ := c26; try dsimp only at hR; try dsimp only at hpo0_c26; try dsimp only at hpo1_c26
   refine GX.callp (r := .tup [.agg [.int .i64 c26a.Level, .int .i64 c26a.Max, .ro 7 (c26a.L.map TLsp.c), .bool c26a.Over], .int .i64 c26b, .int .i64 c26c]) rfl rfl rfl (f21_ok b0 x1 (by omega) (by omega) (by omega) _ hc26) rfl rfl ?_
   refine GX.m rfl ?_
   refine GX.q (.agg [.int .i64 c26a.Level, .int .i64 c26a.Max, .ro 7 (c26a.L.map TLsp.c), .bool c26a.Over]) ?_
   refine GX.q (.int .i64 c26b) ?_
   refine GX.q (.int .i64 c26c) ?_
   refine GX.step (v' := .ptr 2 0) (heap' := [(0, .box (TBase.c b0)), (1, .box (TLsp.c x1)), (2, .box [.int .i64 0, .int .i64 0, .nils, .bool false])]) (next' := 3) rfl rfl rfl rfl rfl rfl rfl ?_
   refine GX.step0 (heap' := [(0, .box (TBase.c b0)), (1, .box (TLsp.c x1)), (2, .box (TBase.c c26a))]) (next' := 3) rfl rfl rfl rfl rfl ?_
   refine GX.m rfl ?_
   refine GX.m rfl ?_
   refine GX.done ?_
   refine WK.sr mixed ?_
   refine GX.q (.agg (TBase.c c26a)) ?_
   refine GX.q (.agg (TLsp.c x1)) ?_
   generalize hc33 : F21_link_Put c26a x1 = c33 at hR
   have hpo0_c33 := post_Put1 c26a x1 (by omega) (by omega) (by omega); rw [hc33] at hpo0_c33
   have hpo1_c33 := post_Put2 c26a x1 (by omega) (by omega) (by omega); rw [hc33] at hpo1_c33
   obtain ⟨c33a, c33b, c33c⟩ := c33; try dsimp only at hR; try dsimp only at hpo0_c33; try dsimp only at hpo1_c33
   refine GX.callp (r := .tup [.agg [.int .i64 c33a.Level, .int .i64 c33a.Max, .ro 7 (c33a.L.map TLsp.c), .bool c33a.Over], .int .i64 c33b, .int .i64 c33c]) rfl rfl rfl (f21_ok c26a x1 (by omega) (by omega) (by omega) _ hc33) rfl rfl ?_
   refine GX.m rfl ?_
   refine GX.q (.agg [.int .i64 c33a.Level, .int .i64 c33a.Max, .ro 7 (c33a.L.map TLsp.c), .bool c33a.Over]) ?_
   refine GX.q (.int .i64 c33b) ?_
   refine GX.q (.int .i64 c33c) ?_
   refine GX.step (v' := .ptr 3 0) (heap' := [(0, .box (TBase.c b0)), (1, .box (TLsp.c x1)), (2, .box (TBase.c c26a)), (3, .box [.int .i64 0, .int .i64 0, .nils, .bool false])]) (next' := 4) rfl rfl rfl rfl rfl rfl rfl ?_
   refine GX.step0 (heap' := [(0, .box (TBase.c b0)), (1, .box (TLsp.c x1)), (2, .box (TBase.c c26a)), (3, .box (TBase.c c33a))]) (next' := 4) rfl rfl rfl rfl rfl ?_
   refine GX.m rfl ?_
   refine GX.m rfl ?_
   refine GX.done ?_
   refine WK.sr mixed ?_
   refine GX.m rfl ?_
   refine GX.done ?_
   refine WK.seq ?_
   refine WK.drawn mixed ?_
   refine RD.q (.agg (TBase.c c26a)) ?_
   refine RD.q (.ptr 2 0) ?_
   refine RD.q (.int .i64 c26a.Level) ?_
   refine RD.m rfl ?_
   refine RD.q (.agg (TBase.c c26a)) ?_
   refine RD.m rfl ?_
   generalize hc44 : F17_link_List c26a 0 18446744073709551615 = c44 at hR
   have hpo0_c44 := post_List1 c26a 0 18446744073709551615 (by omega); rw [hc44] at hpo0_c44
   try dsimp only at hR
   refine RD.callp (r := .ro 4 (c44.map TEntry.c)) rfl rfl rfl (f17_ok c26a 0 18446744073709551615 (by omega) _ hc44) rfl rfl ?_
   refine RD.q (.agg [.int .i64 c26a.Level, .bool true, .int .u64 0, .int .u64 0, .int .u64 18446744073709551615, .ro 4 (c44.map TEntry.c)]) ?_
   generalize hc46 : F18_link_Differ c26a (⟨c26a.Level, true, 0, 0, 18446744073709551615, c44⟩ : TList) = c46 at hR
   have hpo0_c46 := post_Differ1 c26a (⟨c26a.Level, true, 0, 0, 18446744073709551615, c44⟩ : TList) (by omega) (by omega); rw [hc46] at hpo0_c46
   obtain ⟨c46a, c46b⟩ := c46; try dsimp only at hR; try dsimp only at hpo0_c46
   refine RD.callp (r := .tup [.ro 1 (c46a.map c_u64), .ro 4 (c46b.map TEntry.c)]) rfl rfl rfl (f18_ok c26a (⟨c26a.Level, true, 0, 0, 18446744073709551615, c44⟩ : TList) (by omega) (by omega) _ hc46) rfl rfl ?_
   refine RD.m rfl ?_
   refine RD.q (.ro 1 (c46a.map c_u64)) ?_
   refine RD.q (.ro 4 (c46b.map TEntry.c)) ?_
   refine RD.m rfl ?_
   refine RD.m rfl ?_
   refine RD.done rfl ?_
   refine WK.seq ?_
   refine WK.seq ?_
   refine WK.drawn mixed ?_
   refine RD.m rfl ?_
   refine RD.m rfl ?_
   refine RD.q (.bool (!decide (c26c = c33c))) ?_
   refine RD.m rfl ?_
   rcases bool_two (decide (c26c = c33c)) with hb3 | hb3
   ·rw [hb3]; try simp only [hb3, cond_true, cond_false, Bool.true_and, Bool.false_and, Bool.true_or, Bool.false_or, Bool.not_true, Bool.not_false] at hR
    refine RD.skip rfl rfl ?_
    refine RD.skip rfl rfl ?_
    refine RD.skip rfl rfl ?_
    refine RD.skip rfl rfl ?_
    refine RD.skip rfl rfl ?_
    refine RD.skip rfl rfl ?_
    refine RD.q (.bool true) ?_
    refine RD.m rfl ?_
    refine RD.skip rfl rfl ?_
    refine RD.skip rfl rfl ?_
    refine RD.skip rfl rfl ?_
    refine RD.skip rfl rfl ?_
    refine RD.skip rfl rfl ?_
    refine RD.skip rfl rfl ?_
    refine RD.q (.bool true) ?_
    refine RD.done rfl ?_
    refine WK.condT rfl ?_
    refine WK.sr mixed ?_
    refine GX.m rfl ?_
    refine GX.done ?_
    refine WK.ret ?_
    subst hR
    exact RetQ.fr [] (.inr rfl) rfl rfl rfl rfl
   ·rw [hb3]; try simp only [hb3, cond_true, cond_false, Bool.true_and, Bool.false_and, Bool.true_or, Bool.false_or, Bool.not_true, Bool.not_false] at hR
    refine RD.q (.agg (TBase.c c26a)) ?_
    generalize hc54 : F23_crossroadslaw23_plain c26a = c54 at hR
    have hpo0_c54 := post_plain c26a (by omega); rw [hc54] at hpo0_c54
    try dsimp only at hR
    refine RD.callp (r := .agg [.int .i64 c54.Level, .int .i64 c54.Max, .ro 7 (c54.L.map TLsp.c), .bool c54.Over]) rfl rfl rfl (f23_ok c26a (by omega) _ hc54) rfl rfl ?_
    refine RD.q (.agg (TBase.c c33a)) ?_
    generalize hc56 : F23_crossroadslaw23_plain c33a = c56 at hR
    have hpo0_c56 := post_plain c33a (by omega); rw [hc56] at hpo0_c56
    try dsimp only at hR
    refine RD.callp (r := .agg [.int .i64 c56.Level, .int .i64 c56.Max, .ro 7 (c56.L.map TLsp.c), .bool c56.Over]) rfl rfl rfl (f23_ok c33a (by omega) _ hc56) rfl rfl ?_
    generalize hc57 : F22_crossroadsref23_Same c54 c56 = c57 at hR
    try dsimp only at hR
    refine RD.callp (r := .bool c57) rfl rfl rfl (f22_ok c54 c56 _ hc57) rfl rfl ?_
    refine RD.q (.bool (!c57)) ?_
    refine RD.q (.bool (!c57)) ?_
    refine RD.m rfl ?_
    rcases bool_two (c57) with hb4 | hb4
    ·rw [hb4]; try simp only [hb4, cond_true, cond_false, Bool.true_and, Bool.false_and, Bool.true_or, Bool.false_or, Bool.not_true, Bool.not_false] at hR
     refine RD.skip rfl rfl ?_
     refine RD.skip rfl rfl ?_
     refine RD.skip rfl rfl ?_
     refine RD.skip rfl rfl ?_
     refine RD.skip rfl rfl ?_
     refine RD.skip rfl rfl ?_
     refine RD.q (.bool true) ?_
     refine RD.done rfl ?_
     refine WK.condT rfl ?_
     refine WK.sr mixed ?_
     refine GX.m rfl ?_
     refine GX.done ?_
     refine WK.ret ?_
     subst hR
     exact RetQ.fr [] (.inr rfl) rfl rfl rfl rfl
    ·rw [hb4]; try simp only [hb4, cond_true, cond_false, Bool.true_and, Bool.false_and, Bool.true_or, Bool.false_or, Bool.not_true, Bool.not_false] at hR
     refine RD.m rfl ?_
     refine RD.pure (v' := .int .i64 (c46a.length : Int)) rfl rfl rfl rfl (len_map _ _) ?_
     refine RD.m rfl ?_
     refine RD.pure (v' := .int .i64 (c46b.length : Int)) rfl rfl rfl rfl (len_map _ _) ?_
     refine RD.q (.int .i64 (IntKind.i64.wrap ((c46a.length : Int) + (c46b.length : Int)))) ?_
     refine RD.q (.bool (decide (0 < IntKind.i64.wrap ((c46a.length : Int) + (c46b.length : Int))))) ?_
     refine RD.q (.bool (decide (0 < IntKind.i64.wrap ((c46a.length : Int) + (c46b.length : Int))))) ?_
     refine RD.done rfl ?_
     rcases bool_two (decide (0 < IntKind.i64.wrap ((c46a.length : Int) + (c46b.length : Int)))) with hb5 | hb5
     ·rw [hb5]; try simp only [hb5, cond_true, cond_false, Bool.true_and, Bool.false_and, Bool.true_or, Bool.false_or, Bool.not_true, Bool.not_false] at hR
      refine WK.condF rfl ?_
      refine WK.skip ?_
      refine WK.sr mixed ?_
      generalize hc68 : F11_crossroadslaw23_alive = c68 at hR
      try dsimp only at hR
      refine GX.callp (r := .bool c68) rfl rfl rfl (f11_ok  _ hc68) rfl rfl ?_
      refine GX.m rfl ?_
      rcases bool_two (c68) with hb6 | hb6
      ·rw [hb6]; try simp only [hb6, cond_true, cond_false, Bool.true_and, Bool.false_and, Bool.true_or, Bool.false_or, Bool.not_true, Bool.not_false] at hR
       refine GX.skip rfl rfl ?_
       refine GX.skip rfl rfl ?_
       refine GX.skip rfl rfl ?_
       refine GX.skip rfl rfl ?_
       refine GX.skip rfl rfl ?_
       refine GX.skip rfl rfl ?_
       refine GX.skip rfl rfl ?_
       refine GX.skip rfl rfl ?_
       refine GX.skip rfl rfl ?_
       refine GX.skip rfl rfl ?_
       refine GX.skip rfl rfl ?_
       refine GX.skip rfl rfl ?_
       refine GX.skip rfl rfl ?_
       refine GX.skip rfl rfl ?_
       refine GX.skip rfl rfl ?_
       refine GX.skip rfl rfl ?_
       refine GX.skip rfl rfl ?_
       refine GX.skip rfl rfl ?_
       refine GX.q (.bool false) ?_
       refine GX.m rfl ?_
       refine GX.done ?_
       refine WK.ret ?_
       subst hR
       exact RetQ.fr [] (.inr rfl) rfl rfl rfl rfl
      ·rw [hb6]; try simp only [hb6, cond_true, cond_false, Bool.true_and, Bool.false_and, Bool.true_or, Bool.false_or, Bool.not_true, Bool.not_false] at hR
       refine GX.m rfl ?_
       refine GX.q (.bool (!decide (c26c = 0))) ?_
       refine GX.m rfl ?_
       rcases bool_two (decide (c26c = 0)) with hb7 | hb7
       ·rw [hb7]; try simp only [hb7, cond_true, cond_false, Bool.true_and, Bool.false_and, Bool.true_or, Bool.false_or, Bool.not_true, Bool.not_false] at hR
        refine GX.skip rfl rfl ?_
        refine GX.skip rfl rfl ?_
        refine GX.skip rfl rfl ?_
        refine GX.skip rfl rfl ?_
        refine GX.skip rfl rfl ?_
        refine GX.skip rfl rfl ?_
        refine GX.q (.bool true) ?_
        refine GX.m rfl ?_
        refine GX.skip rfl rfl ?_
        refine GX.skip rfl rfl ?_
        refine GX.skip rfl rfl ?_
        refine GX.skip rfl rfl ?_
        refine GX.skip rfl rfl ?_
        refine GX.skip rfl rfl ?_
        refine GX.q (.bool true) ?_
        refine GX.q (.bool true) ?_
        refine GX.m rfl ?_
        refine GX.done ?_
        refine WK.ret ?_
        subst hR
        exact RetQ.fr [] (.inr rfl) rfl rfl rfl rfl
       ·rw [hb7]; try simp only [hb7, cond_true, cond_false, Bool.true_and, Bool.false_and, Bool.true_or, Bool.false_or, Bool.not_true, Bool.not_false] at hR
        refine GX.m rfl ?_
        refine GX.q (.bool (decide (c26b = 0))) ?_
        refine GX.m rfl ?_
        rcases bool_two (decide (c26b = 0)) with hb8 | hb8
        ·rw [hb8]; try simp only [hb8, cond_true, cond_false, Bool.true_and, Bool.false_and, Bool.true_or, Bool.false_or, Bool.not_true, Bool.not_false] at hR
         refine GX.skip rfl rfl ?_
         refine GX.skip rfl rfl ?_
         refine GX.q (.bool false) ?_
         refine GX.q (.bool false) ?_
         refine GX.m rfl ?_
         refine GX.m rfl ?_
         refine GX.q (.bool (decide (0 < c26b))) ?_
         refine GX.m rfl ?_
         rcases bool_two (decide (0 < c26b)) with hb9 | hb9
         ·rw [hb9]; try simp only [hb9, cond_true, cond_false, Bool.true_and, Bool.false_and, Bool.true_or, Bool.false_or, Bool.not_true, Bool.not_false] at hR
          refine GX.skip rfl rfl ?_
          refine GX.skip rfl rfl ?_
          refine GX.q (.bool false) ?_
          refine GX.q (.bool false) ?_
          refine GX.q (.bool false) ?_
          refine GX.m rfl ?_
          refine GX.done ?_
          refine WK.ret ?_
          subst hR
          exact RetQ.fr [] (.inr rfl) rfl rfl rfl rfl
         ·rw [hb9]; try simp only [hb9, cond_true, cond_false, Bool.true_and, Bool.false_and, Bool.true_or, Bool.false_or, Bool.not_true, Bool.not_false] at hR
          refine GX.m rfl ?_
          refine GX.q (.bool (decide (c33b = 1))) ?_
          refine GX.q (.bool (decide (c33b = 1))) ?_
          refine GX.q (.bool (decide (c33b = 1))) ?_
          refine GX.q (.bool (decide (c33b = 1))) ?_
          refine GX.m rfl ?_
          refine GX.done ?_
          refine WK.ret ?_
          subst hR
          exact RetQ.fr [] (.inr rfl) rfl rfl rfl rfl
        ·rw [hb8]; try simp only [hb8, cond_true, cond_false, Bool.true_and, Bool.false_and, Bool.true_or, Bool.false_or, Bool.not_true, Bool.not_false] at hR
         refine GX.m rfl ?_
         refine GX.q (.bool (decide (c33b = 0))) ?_
         refine GX.q (.bool (decide (c33b = 0))) ?_
         refine GX.q (.bool (decide (c33b = 0))) ?_
         refine GX.m rfl ?_
         rcases bool_two (decide (c33b = 0)) with hb10 | hb10
         ·rw [hb10]; try simp only [hb10, cond_true, cond_false, Bool.true_and, Bool.false_and, Bool.true_or, Bool.false_or, Bool.not_true, Bool.not_false] at hR
          refine GX.m rfl ?_
          refine GX.q (.bool (decide (0 < c26b))) ?_
          refine GX.m rfl ?_
          rcases bool_two (decide (0 < c26b)) with hb11 | hb11
          ·rw [hb11]; try simp only [hb11, cond_true, cond_false, Bool.true_and, Bool.false_and, Bool.true_or, Bool.false_or, Bool.not_true, Bool.not_false] at hR
           refine GX.skip rfl rfl ?_
           refine GX.skip rfl rfl ?_
           refine GX.q (.bool false) ?_
           refine GX.q (.bool false) ?_
           refine GX.q (.bool false) ?_
           refine GX.m rfl ?_
           refine GX.done ?_
           refine WK.ret ?_
           subst hR
           exact RetQ.fr [] (.inr rfl) rfl rfl rfl rfl
          ·rw [hb11]; try simp only [hb11, cond_true, cond_false, Bool.true_and, Bool.false_and, Bool.true_or, Bool.false_or, Bool.not_true, Bool.not_false] at hR
           refine GX.m rfl ?_
           refine GX.q (.bool (decide (c33b = 1))) ?_
           refine GX.q (.bool (decide (c33b = 1))) ?_
           refine GX.q (.bool (decide (c33b = 1))) ?_
           refine GX.q (.bool (decide (c33b = 1))) ?_
           refine GX.m rfl ?_
           refine GX.done ?_
           refine WK.ret ?_
           subst hR
           exact RetQ.fr [] (.inr rfl) rfl rfl rfl rfl
         ·rw [hb10]; try simp only [hb10, cond_true, cond_false, Bool.true_and, Bool.false_and, Bool.true_or, Bool.false_or, Bool.not_true, Bool.not_false] at hR
          refine GX.skip rfl rfl ?_
          refine GX.skip rfl rfl ?_
          refine GX.skip rfl rfl ?_
          refine GX.skip rfl rfl ?_
          refine GX.skip rfl rfl ?_
          refine GX.skip rfl rfl ?_
          refine GX.q (.bool true) ?_
          refine GX.q (.bool true) ?_
          refine GX.m rfl ?_
          refine GX.done ?_
          refine WK.ret ?_
          subst hR
          exact RetQ.fr [] (.inr rfl) rfl rfl rfl rfl
     ·rw [hb5]; try simp only [hb5, cond_true, cond_false, Bool.true_and, Bool.false_and, Bool.true_or, Bool.false_or, Bool.not_true, Bool.not_false] at hR
      refine WK.condT rfl ?_
      refine WK.sr mixed ?_
      refine GX.m rfl ?_
      refine GX.done ?_
      refine WK.ret ?_
      subst hR
      exact RetQ.fr [] (.inr rfl) rfl rfl rfl rfl

end Go.Proofs.Ytpcpclbdajebjaa.Abs
