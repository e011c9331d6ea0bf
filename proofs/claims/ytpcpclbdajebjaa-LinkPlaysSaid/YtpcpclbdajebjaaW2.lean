/- The functions walked: each computes its Lean function (printed by this work's own program gen.py). -/
import Derived.Test.YtpcpclbdajebjaaSz
import Derived.Test.YtpcpclbdajebjaaW1
set_option linter.unusedVariables false
set_option linter.unusedSimpArgs false
set_option maxRecDepth 10000
set_option maxHeartbeats 4000000
namespace Go.Proofs.Ytpcpclbdajebjaa.Abs
open Go

theorem f18_ok (b0 : TBase) (x1 : TList) (hp0 : SmB b0) (hp1 : x1.L.length ≤ 1000) (R : (List Int) × (List TEntry)) (hR : F18_link_Differ b0 x1 = R) : FnOk Try.prog 18 [.agg (TBase.c b0), .agg (TList.c x1)] [] 0 (.tup [.ro 1 (R.1.map c_u64), .ro 4 (R.2.map TEntry.c)]) [] 0 := by
 refine FnOk.wk i18 rfl rfl ?_
 unfold F18_link_Differ at hR
 change WK _ _ _ [ac18] _ ⟨[(0, .agg (TBase.c b0)), (1, .agg (TList.c x1))], [], 0⟩
 unfold ac18
 refine WK.sr mixed ?_
 refine GX.step (v' := .ptr 0 0) (heap' := [(0, .box (TBase.c b0))]) (next' := 1) rfl rfl rfl rfl rfl rfl rfl ?_
 refine GX.step (v' := .ptr 1 0) (heap' := [(0, .box (TBase.c b0)), (1, .box (TList.c x1))]) (next' := 2) rfl rfl rfl rfl rfl rfl rfl ?_
 iterate 2 refine GX.m rfl ?_
 refine GX.done ?_
 refine WK.sr mixed ?_
 refine GX.step (v' := .mapr 2) (heap' := [(0, .box (TBase.c b0)), (1, .box (TList.c x1)), (2, .mp (([] : List (Int × TEntry)).map (encM .u64 (fun y => .agg (TEntry.c y)))))]) (next' := 3) rfl rfl rfl rfl rfl rfl rfl ?_
 refine GX.m rfl ?_
 refine GX.done ?_
 refine WK.sr mixed ?_
 refine GX.m rfl ?_
 refine GX.done ?_
 refine WK.seq ?_
 refine WK.sr mixed ?_
 refine GX.q (.ptr 1 5) ?_
 refine GX.q (.ro 4 (x1.L.map TEntry.c)) ?_
 refine GX.pure (v' := .int .i64 (x1.L.length : Int)) rfl rfl rfl rfl (len_map _ _) ?_
 refine GX.m rfl ?_
 refine GX.done ?_
 refine WK.adopt (t := 7) (sz := 4) (ty := 25) (heap' := [(0, .box (TBase.c b0)), (1, .box (TList.c x1)), (2, .mp (([] : List (Int × TEntry)).map (encM .u64 (fun y => .agg (TEntry.c y))))), (3, .row 4 25 (([] : List TEntry).map TEntry.c))]) rfl (by decide) (by simp) rfl ?_
 refine WK.len (t := 23) rfl (by simp) (fun hlen_57 => ?_)
 rw [List.length_map] at hlen_57
 generalize hZ_57 : F18_link_Differ_l3 b0 ([] : List (Int × TEntry)) ([] : List TEntry) x1.L = Z_57 at hR
 refine WK.forK (fun k s => ∃ (i25 : Nat) (told6 : List (Int × TEntry)) (ask7 : List TEntry), i25 ≤ x1.L.length ∧ k = x1.L.length - i25 ∧ ask7.length ≤ i25 + 0 ∧ F18_link_Differ_l3 b0 told6 ask7 (x1.L.drop i25) = Z_57 ∧ s = ⟨[(2, .ptr 0 0), (3, .ptr 1 0), (6, .mapr 2), (7, .own 3 4 0 ask7.length), (23, .ro 4 (x1.L.map TEntry.c)), (24, .int .i64 (x1.L.length : Int)), (25, .int .i64 (i25 : Int))], [(0, .box (TBase.c b0)), (1, .box (TList.c x1)), (2, .mp (told6.map (encM .u64 (fun y => .agg (TEntry.c y))))), (3, .row 4 25 (ask7.map TEntry.c))], 4⟩) x1.L.length ⟨⟨[(2, .ptr 0 0), (3, .ptr 1 0), (6, .mapr 2), (7, .own 3 4 0 ([] : List TEntry).length), (23, .ro 4 (x1.L.map TEntry.c)), (24, .int .i64 (x1.L.length : Int)), (25, .int .i64 (0 : Int))], [(0, .box (TBase.c b0)), (1, .box (TList.c x1)), (2, .mp (([] : List (Int × TEntry)).map (encM .u64 (fun y => .agg (TEntry.c y))))), (3, .row 4 25 (([] : List TEntry).map TEntry.c))], 4⟩, Conv.keep [0, 1, 2, 3] [] [2, 3, 6, 7, 23, 24, 25] rfl rfl (viewE_cons rfl rfl (viewE_cons rfl rfl (viewE_cons rfl rfl (viewE_cons rfl rfl (viewE_cons rfl rfl (viewE_cons rfl rfl (viewE_cons rfl rfl viewE_nil))))))) rfl rfl, 0, ([] : List (Int × TEntry)), ([] : List TEntry), (by omega), rfl, (by ((try simp only [List.length_append, List.length_cons, List.length_nil, decide_eq_true_eq, decide_eq_false_iff_not] at *) <;> first | omega | (rw [wrap64_of (by omega) (by omega)]; omega))), hZ_57, rfl⟩ ?_
 rintro _ _ ⟨i25, told6, ask7, hi_57, rfl, hinv57_ask7, hL_57, rfl⟩ again_57 out_57 Q_57 hagain_57 hout_57 hQ_57
 refine WK.sr mixed ?_
 refine GX.q (.bool (decide ((i25 : Int) < (x1.L.length : Int)))) ?_
 refine GX.done ?_
 refine WK.seq ?_
 rcases bool_two (decide ((i25 : Int) < (x1.L.length : Int))) with hb58 | hb58
 ·rw [hb58]
  rw [drop_end hb58, F18_link_Differ_l3] at hL_57
  refine WK.condF rfl ?_
  refine WK.exit ?_
  refine QF.exit (hout_57 _ ?_)
  subst hL_57
  try dsimp only [cond_true, cond_false] at hR
  refine WK.sr mixed ?_
  refine GX.m rfl ?_
  refine GX.done ?_
  refine WK.seq ?_
  refine WK.sr mixed ?_
  refine GX.q (.agg (TBase.c b0)) ?_
  generalize hc73 : F17_link_List b0 0 18446744073709551615 = c73 at hR
  have hpo0_c73 := post_List1 b0 0 18446744073709551615 (by omega); rw [hc73] at hpo0_c73
  try dsimp only at hR
  refine GX.callp (r := .ro 4 (c73.map TEntry.c)) rfl rfl rfl (f17_ok b0 0 18446744073709551615 (by omega) _ hc73) rfl rfl ?_
  refine GX.pure (v' := .int .i64 (c73.length : Int)) rfl rfl rfl rfl (len_map _ _) ?_
  refine GX.m rfl ?_
  refine GX.done ?_
  refine WK.adopt (t := 15) (sz := 1) (ty := 22) (heap' := [(0, .box (TBase.c b0)), (1, .box (TList.c x1)), (2, .mp (told6.map (encM .u64 (fun y => .agg (TEntry.c y))))), (3, .row 4 25 (ask7.map TEntry.c)), (4, .row 1 22 (([] : List Int).map c_u64))]) rfl (by decide) (by simp) rfl ?_
  refine WK.len (t := 73) rfl (by simp) (fun hlen_73 => ?_)
  rw [List.length_map] at hlen_73
  generalize hZ_73 : F18_link_Differ_l2 x1 told6 ([] : List Int) c73 = Z_73 at hR
  refine WK.forK (fun k s => ∃ (i75 : Nat) (send15 : List Int), i75 ≤ c73.length ∧ k = c73.length - i75 ∧ send15.length ≤ i75 + 0 ∧ F18_link_Differ_l2 x1 told6 send15 (c73.drop i75) = Z_73 ∧ s = ⟨[(3, .ptr 0 0), (6, .mapr 1), (7, .own 2 4 0 ask7.length), (15, .own 3 1 0 send15.length), (73, .ro 4 (c73.map TEntry.c)), (74, .int .i64 (c73.length : Int)), (75, .int .i64 (i75 : Int))], [(0, .box (TList.c x1)), (1, .mp (told6.map (encM .u64 (fun y => .agg (TEntry.c y))))), (2, .row 4 25 (ask7.map TEntry.c)), (3, .row 1 22 (send15.map c_u64))], 4⟩) c73.length ⟨⟨[(3, .ptr 0 0), (6, .mapr 1), (7, .own 2 4 0 ask7.length), (15, .own 3 1 0 ([] : List Int).length), (73, .ro 4 (c73.map TEntry.c)), (74, .int .i64 (c73.length : Int)), (75, .int .i64 (0 : Int))], [(0, .box (TList.c x1)), (1, .mp (told6.map (encM .u64 (fun y => .agg (TEntry.c y))))), (2, .row 4 25 (ask7.map TEntry.c)), (3, .row 1 22 (([] : List Int).map c_u64))], 4⟩, Conv.keep [1, 2, 3, 4] [] [3, 6, 7, 15, 73, 74, 75] rfl rfl (viewE_cons rfl rfl (viewE_cons rfl rfl (viewE_cons rfl rfl (viewE_cons rfl rfl (viewE_cons rfl rfl (viewE_cons rfl rfl (viewE_cons rfl rfl viewE_nil))))))) rfl rfl, 0, ([] : List Int), (by omega), rfl, (by ((try simp only [List.length_append, List.length_cons, List.length_nil, decide_eq_true_eq, decide_eq_false_iff_not] at *) <;> first | omega | (rw [wrap64_of (by omega) (by omega)]; omega))), hZ_73, rfl⟩ ?_
  rintro _ _ ⟨i75, send15, hi_73, rfl, hinv73_send15, hL_73, rfl⟩ again_73 out_73 Q_73 hagain_73 hout_73 hQ_73
  refine WK.sr mixed ?_
  refine GX.q (.bool (decide ((i75 : Int) < (c73.length : Int)))) ?_
  refine GX.done ?_
  refine WK.seq ?_
  rcases bool_two (decide ((i75 : Int) < (c73.length : Int))) with hb74 | hb74
  ·rw [hb74]
   rw [drop_end hb74, F18_link_Differ_l2] at hL_73
   refine WK.condF rfl ?_
   refine WK.exit ?_
   refine QF.exit (hout_73 _ ?_)
   subst hL_73
   try dsimp only [cond_true, cond_false] at hR
   refine WK.sr mixed ?_
   iterate 4 refine GX.m rfl ?_
   refine GX.done ?_
   refine WK.ret ?_
   subst hR
   exact RetQ.fr [3, 2] (.inr rfl) rfl rfl (viewGo_cons (view_rowT rfl rfl) (viewGo_cons (view_rowT rfl rfl) viewGo_nil)) rfl
  ·rw [hb74]
   obtain ⟨x75, hx73, hd73, hlt73⟩ := drop_more hb74
   rw [hd73, F18_link_Differ_l2] at hL_73
   refine WK.condT rfl ?_
   refine WK.skip ?_
   refine WK.seq ?_
   refine WK.blockK (fun _ hK75 => ?_)
   refine WK.sr mixed ?_
   refine GX.idxT (c := TEntry.c) (x := x75) rfl rfl rfl (Int.natCast_nonneg _) hx73 ?_
   refine GX.q (.agg (TEntry.c x75)) ?_
   refine GX.step (v' := .ptr 4 0) (heap' := [(0, .box (TList.c x1)), (1, .mp (told6.map (encM .u64 (fun y => .agg (TEntry.c y))))), (2, .row 4 25 (ask7.map TEntry.c)), (3, .row 1 22 (send15.map c_u64)), (4, .box [.int .i64 0, .int .u64 0, .int .u32 0, .int .i64 0])]) (next' := 5) rfl rfl rfl rfl rfl rfl rfl ?_
   refine GX.step0 (heap' := [(0, .box (TList.c x1)), (1, .mp (told6.map (encM .u64 (fun y => .agg (TEntry.c y))))), (2, .row 4 25 (ask7.map TEntry.c)), (3, .row 1 22 (send15.map c_u64)), (4, .box (TEntry.c x75))]) (next' := 5) rfl rfl rfl rfl rfl ?_
   refine GX.done ?_
   refine WK.sr mixed ?_
   refine GX.m rfl ?_
   refine GX.q (.ptr 4 1) ?_
   refine GX.q (.int .u64 x75.ID) ?_
   refine GX.pure (v' := .tup [.agg [.int .i64 (((findM told6 x75.ID).getD (⟨0, 0, 0, 0⟩ : TEntry)).Life), .int .u64 (((findM told6 x75.ID).getD (⟨0, 0, 0, 0⟩ : TEntry)).ID), .int .u32 (((findM told6 x75.ID).getD (⟨0, 0, 0, 0⟩ : TEntry)).Seq), .int .i64 (((findM told6 x75.ID).getD (⟨0, 0, 0, 0⟩ : TEntry)).Sum)], .bool ((findM told6 x75.ID).isSome)]) rfl rfl rfl (core_lookM2 (e := (fun y => .agg (TEntry.c y))) (z0 := (⟨0, 0, 0, 0⟩ : TEntry)) rfl rfl) rfl ?_
   refine GX.m rfl ?_
   refine GX.q (.agg [.int .i64 (((findM told6 x75.ID).getD (⟨0, 0, 0, 0⟩ : TEntry)).Life), .int .u64 (((findM told6 x75.ID).getD (⟨0, 0, 0, 0⟩ : TEntry)).ID), .int .u32 (((findM told6 x75.ID).getD (⟨0, 0, 0, 0⟩ : TEntry)).Seq), .int .i64 (((findM told6 x75.ID).getD (⟨0, 0, 0, 0⟩ : TEntry)).Sum)]) ?_
   refine GX.q (.bool ((findM told6 x75.ID).isSome)) ?_
   refine GX.step (v' := .ptr 5 0) (heap' := [(0, .box (TList.c x1)), (1, .mp (told6.map (encM .u64 (fun y => .agg (TEntry.c y))))), (2, .row 4 25 (ask7.map TEntry.c)), (3, .row 1 22 (send15.map c_u64)), (4, .box (TEntry.c x75)), (5, .box [.int .i64 0, .int .u64 0, .int .u32 0, .int .i64 0])]) (next' := 6) rfl rfl rfl rfl rfl rfl rfl ?_
   refine GX.step0 (heap' := [(0, .box (TList.c x1)), (1, .mp (told6.map (encM .u64 (fun y => .agg (TEntry.c y))))), (2, .row 4 25 (ask7.map TEntry.c)), (3, .row 1 22 (send15.map c_u64)), (4, .box (TEntry.c x75)), (5, .box [.int .i64 (((findM told6 x75.ID).getD (⟨0, 0, 0, 0⟩ : TEntry)).Life), .int .u64 (((findM told6 x75.ID).getD (⟨0, 0, 0, 0⟩ : TEntry)).ID), .int .u32 (((findM told6 x75.ID).getD (⟨0, 0, 0, 0⟩ : TEntry)).Seq), .int .i64 (((findM told6 x75.ID).getD (⟨0, 0, 0, 0⟩ : TEntry)).Sum)])]) (next' := 6) rfl rfl rfl rfl rfl ?_
   refine GX.m rfl ?_
   refine GX.done ?_
   refine WK.sr mixed ?_
   refine GX.m rfl ?_
   refine GX.q (.bool (!((findM told6 x75.ID).isSome))) ?_
   refine GX.m rfl ?_
   rcases bool_two ((findM told6 x75.ID).isSome) with hb76 | hb76
   ·rw [hb76]; try simp only [hb76, bb] at hL_73
    refine GX.q (.ptr 0 1) ?_
    iterate 2 refine GX.q (.bool x1.Whole) ?_
    refine GX.m rfl ?_
    rcases bool_two (x1.Whole) with hb77 | hb77
    ·rw [hb77]; try simp only [hb77, bb] at hL_73
     iterate 5 refine GX.skip rfl rfl ?_
     refine GX.q (.bool false) ?_
     refine GX.m rfl ?_
     iterate 5 refine GX.skip rfl rfl ?_
     refine GX.q (.bool false) ?_
     refine GX.m rfl ?_
     refine GX.done ?_
     refine WK.sr mixed ?_
     iterate 4 refine GX.m rfl ?_
     iterate 4 refine GX.skip rfl rfl ?_
     iterate 2 refine GX.q (.bool false) ?_
     refine GX.done ?_
     refine WK.condF rfl ?_
     refine WK.skip ?_
     refine WK.nil (QF.normal (hK75 _ ?_))
     refine WK.regx mixed ?_
     refine GX.pure (v' := .int .i64 ((i75 + 1 : Nat) : Int)) rfl rfl rfl rfl (congrArg (PVal.int .i64) (wrap_up hlt73 hlen_73)) ?_
     refine GX.m rfl ?_
     refine GX.done ?_
     refine WK.nil (QF.normal ?_)
     exact hagain_73 _ (c73.length - (i75 + 1)) ⟨[(3, .ptr 0 0), (6, .mapr 1), (7, .own 2 4 0 ask7.length), (15, .own 3 1 0 send15.length), (73, .ro 4 (c73.map TEntry.c)), (74, .int .i64 (c73.length : Int)), (75, .int .i64 ((i75 + 1) : Int))], [(0, .box (TList.c x1)), (1, .mp (told6.map (encM .u64 (fun y => .agg (TEntry.c y))))), (2, .row 4 25 (ask7.map TEntry.c)), (3, .row 1 22 (send15.map c_u64))], 4⟩ (by omega) (Conv.keep [0, 1, 2, 3] [] [3, 6, 7, 15, 73, 74, 75] rfl rfl (viewE_cons rfl rfl (viewE_cons rfl rfl (viewE_cons rfl rfl (viewE_cons rfl rfl (viewE_cons rfl rfl (viewE_cons rfl rfl (viewE_cons rfl rfl viewE_nil))))))) rfl rfl) ⟨i75 + 1, send15, (by omega), rfl, (by omega), hL_73, rfl⟩
    ·rw [hb77]; try simp only [hb77, bb] at hL_73
     refine GX.q (.ptr 4 1) ?_
     refine GX.q (.int .u64 x75.ID) ?_
     refine GX.q (.ptr 0 3) ?_
     refine GX.q (.int .u64 x1.Low) ?_
     iterate 2 refine GX.q (.bool (decide (x1.Low ≤ x75.ID))) ?_
     refine GX.m rfl ?_
     rcases bool_two (decide (x1.Low ≤ x75.ID)) with hb78 | hb78
     ·rw [hb78]; try simp only [hb78, bb] at hL_73
      iterate 5 refine GX.skip rfl rfl ?_
      refine GX.q (.bool false) ?_
      refine GX.m rfl ?_
      refine GX.done ?_
      refine WK.sr mixed ?_
      iterate 4 refine GX.m rfl ?_
      iterate 4 refine GX.skip rfl rfl ?_
      iterate 2 refine GX.q (.bool false) ?_
      refine GX.done ?_
      refine WK.condF rfl ?_
      refine WK.skip ?_
      refine WK.nil (QF.normal (hK75 _ ?_))
      refine WK.regx mixed ?_
      refine GX.pure (v' := .int .i64 ((i75 + 1 : Nat) : Int)) rfl rfl rfl rfl (congrArg (PVal.int .i64) (wrap_up hlt73 hlen_73)) ?_
      refine GX.m rfl ?_
      refine GX.done ?_
      refine WK.nil (QF.normal ?_)
      exact hagain_73 _ (c73.length - (i75 + 1)) ⟨[(3, .ptr 0 0), (6, .mapr 1), (7, .own 2 4 0 ask7.length), (15, .own 3 1 0 send15.length), (73, .ro 4 (c73.map TEntry.c)), (74, .int .i64 (c73.length : Int)), (75, .int .i64 ((i75 + 1) : Int))], [(0, .box (TList.c x1)), (1, .mp (told6.map (encM .u64 (fun y => .agg (TEntry.c y))))), (2, .row 4 25 (ask7.map TEntry.c)), (3, .row 1 22 (send15.map c_u64))], 4⟩ (by omega) (Conv.keep [0, 1, 2, 3] [] [3, 6, 7, 15, 73, 74, 75] rfl rfl (viewE_cons rfl rfl (viewE_cons rfl rfl (viewE_cons rfl rfl (viewE_cons rfl rfl (viewE_cons rfl rfl (viewE_cons rfl rfl (viewE_cons rfl rfl viewE_nil))))))) rfl rfl) ⟨i75 + 1, send15, (by omega), rfl, (by omega), hL_73, rfl⟩
     ·rw [hb78]; try simp only [hb78, bb] at hL_73
      refine GX.q (.ptr 4 1) ?_
      refine GX.q (.int .u64 x75.ID) ?_
      refine GX.q (.ptr 0 4) ?_
      refine GX.q (.int .u64 x1.High) ?_
      iterate 2 refine GX.q (.bool (decide (x75.ID ≤ x1.High))) ?_
      refine GX.m rfl ?_
      refine GX.done ?_
      refine WK.sr mixed ?_
      iterate 2 refine GX.m rfl ?_
      rcases bool_two (decide (x75.ID ≤ x1.High)) with hb79 | hb79
      ·rw [hb79]; try simp only [hb79, bb] at hL_73
       iterate 2 refine GX.m rfl ?_
       iterate 4 refine GX.skip rfl rfl ?_
       iterate 2 refine GX.q (.bool false) ?_
       refine GX.done ?_
       refine WK.condF rfl ?_
       refine WK.skip ?_
       refine WK.nil (QF.normal (hK75 _ ?_))
       refine WK.regx mixed ?_
       refine GX.pure (v' := .int .i64 ((i75 + 1 : Nat) : Int)) rfl rfl rfl rfl (congrArg (PVal.int .i64) (wrap_up hlt73 hlen_73)) ?_
       refine GX.m rfl ?_
       refine GX.done ?_
       refine WK.nil (QF.normal ?_)
       exact hagain_73 _ (c73.length - (i75 + 1)) ⟨[(3, .ptr 0 0), (6, .mapr 1), (7, .own 2 4 0 ask7.length), (15, .own 3 1 0 send15.length), (73, .ro 4 (c73.map TEntry.c)), (74, .int .i64 (c73.length : Int)), (75, .int .i64 ((i75 + 1) : Int))], [(0, .box (TList.c x1)), (1, .mp (told6.map (encM .u64 (fun y => .agg (TEntry.c y))))), (2, .row 4 25 (ask7.map TEntry.c)), (3, .row 1 22 (send15.map c_u64))], 4⟩ (by omega) (Conv.keep [0, 1, 2, 3] [] [3, 6, 7, 15, 73, 74, 75] rfl rfl (viewE_cons rfl rfl (viewE_cons rfl rfl (viewE_cons rfl rfl (viewE_cons rfl rfl (viewE_cons rfl rfl (viewE_cons rfl rfl (viewE_cons rfl rfl viewE_nil))))))) rfl rfl) ⟨i75 + 1, send15, (by omega), rfl, (by omega), hL_73, rfl⟩
      ·rw [hb79]; try simp only [hb79, bb] at hL_73
       iterate 7 refine GX.skip rfl rfl ?_
       refine GX.q (.bool true) ?_
       refine GX.done ?_
       refine WK.condT rfl ?_
       refine WK.regx mixed ?_
       refine GX.m rfl ?_
       refine GX.q (.ptr 4 1) ?_
       refine GX.q (.int .u64 x75.ID) ?_
       refine GX.step (v' := .own 6 1 0 (([x75.ID] : List Int)).length) (heap' := [(0, .box (TList.c x1)), (1, .mp (told6.map (encM .u64 (fun y => .agg (TEntry.c y))))), (2, .row 4 25 (ask7.map TEntry.c)), (3, .row 1 22 (send15.map c_u64)), (4, .box (TEntry.c x75)), (5, .box [.int .i64 (((findM told6 x75.ID).getD (⟨0, 0, 0, 0⟩ : TEntry)).Life), .int .u64 (((findM told6 x75.ID).getD (⟨0, 0, 0, 0⟩ : TEntry)).ID), .int .u32 (((findM told6 x75.ID).getD (⟨0, 0, 0, 0⟩ : TEntry)).Seq), .int .i64 (((findM told6 x75.ID).getD (⟨0, 0, 0, 0⟩ : TEntry)).Sum)]), (6, .row 1 22 (([x75.ID] : List Int).map c_u64))]) (next' := 7) rfl rfl rfl rfl rfl rfl rfl ?_
       refine GX.appT (c := c_u64) (L := send15) (X := ([x75.ID] : List Int)) (heap' := [(0, .box (TList.c x1)), (1, .mp (told6.map (encM .u64 (fun y => .agg (TEntry.c y))))), (2, .row 4 25 (ask7.map TEntry.c)), (4, .box (TEntry.c x75)), (5, .box [.int .i64 (((findM told6 x75.ID).getD (⟨0, 0, 0, 0⟩ : TEntry)).Life), .int .u64 (((findM told6 x75.ID).getD (⟨0, 0, 0, 0⟩ : TEntry)).ID), .int .u32 (((findM told6 x75.ID).getD (⟨0, 0, 0, 0⟩ : TEntry)).Seq), .int .i64 (((findM told6 x75.ID).getD (⟨0, 0, 0, 0⟩ : TEntry)).Sum)]), (6, .row 1 22 (([x75.ID] : List Int).map c_u64)), (7, .row 1 22 ((send15 ++ ([x75.ID] : List Int)).map c_u64))]) (next' := 8) rfl rfl rfl rfl (elems_own rfl) (by ((try simp only [List.length_append, List.length_cons, List.length_nil, List.length_map, decide_eq_true_eq, decide_eq_false_iff_not] at *) <;> omega)) (by ((try simp only [List.length_append, List.length_cons, List.length_nil, List.length_map, decide_eq_true_eq, decide_eq_false_iff_not] at *) <;> omega)) rfl rfl rfl rfl ?_
       refine GX.m rfl ?_
       refine GX.done ?_
       refine WK.nil (QF.normal (hK75 _ ?_))
       refine WK.regx mixed ?_
       refine GX.pure (v' := .int .i64 ((i75 + 1 : Nat) : Int)) rfl rfl rfl rfl (congrArg (PVal.int .i64) (wrap_up hlt73 hlen_73)) ?_
       refine GX.m rfl ?_
       refine GX.done ?_
       refine WK.nil (QF.normal ?_)
       exact hagain_73 _ (c73.length - (i75 + 1)) ⟨[(3, .ptr 0 0), (6, .mapr 1), (7, .own 2 4 0 ask7.length), (15, .own 3 1 0 (send15 ++ ([x75.ID] : List Int)).length), (73, .ro 4 (c73.map TEntry.c)), (74, .int .i64 (c73.length : Int)), (75, .int .i64 ((i75 + 1) : Int))], [(0, .box (TList.c x1)), (1, .mp (told6.map (encM .u64 (fun y => .agg (TEntry.c y))))), (2, .row 4 25 (ask7.map TEntry.c)), (3, .row 1 22 ((send15 ++ ([x75.ID] : List Int)).map c_u64))], 4⟩ (by omega) (Conv.keep [0, 1, 2, 7] [] [3, 6, 7, 15, 73, 74, 75] rfl rfl (viewE_cons rfl rfl (viewE_cons rfl rfl (viewE_cons rfl rfl (viewE_cons rfl rfl (viewE_cons rfl rfl (viewE_cons rfl rfl (viewE_cons rfl rfl viewE_nil))))))) rfl rfl) ⟨i75 + 1, (send15 ++ ([x75.ID] : List Int)), (by omega), rfl, (by ((try simp only [List.length_append, List.length_cons, List.length_nil, decide_eq_true_eq, decide_eq_false_iff_not] at *) <;> first | omega | (rw [wrap64_of (by omega) (by omega)]; omega))), hL_73, rfl⟩
   ·rw [hb76]; try simp only [hb76, bb] at hL_73
    iterate 2 refine GX.skip rfl rfl ?_
    refine GX.q (.bool false) ?_
    refine GX.m rfl ?_
    iterate 5 refine GX.skip rfl rfl ?_
    refine GX.q (.bool false) ?_
    refine GX.m rfl ?_
    iterate 5 refine GX.skip rfl rfl ?_
    refine GX.q (.bool false) ?_
    refine GX.m rfl ?_
    refine GX.done ?_
    refine WK.sr mixed ?_
    iterate 4 refine GX.m rfl ?_
    refine GX.q (.agg (TEntry.c x75)) ?_
    refine GX.q (.agg [.int .i64 (((findM told6 x75.ID).getD (⟨0, 0, 0, 0⟩ : TEntry)).Life), .int .u64 (((findM told6 x75.ID).getD (⟨0, 0, 0, 0⟩ : TEntry)).ID), .int .u32 (((findM told6 x75.ID).getD (⟨0, 0, 0, 0⟩ : TEntry)).Seq), .int .i64 (((findM told6 x75.ID).getD (⟨0, 0, 0, 0⟩ : TEntry)).Sum)]) ?_
    generalize hc112 : F8_link_Compare x75 ((findM told6 x75.ID).getD (⟨0, 0, 0, 0⟩ : TEntry)) = c112 at hL_73
    try dsimp only at hL_73
    refine GX.callp (r := .int .i64 c112) rfl rfl rfl (f8_ok x75 ((findM told6 x75.ID).getD (⟨0, 0, 0, 0⟩ : TEntry)) _ hc112) rfl rfl ?_
    iterate 3 refine GX.q (.bool (decide (0 < c112))) ?_
    refine GX.done ?_
    rcases bool_two (decide (0 < c112)) with hb80 | hb80
    ·rw [hb80]; try simp only [hb80, bb] at hL_73
     refine WK.condF rfl ?_
     refine WK.skip ?_
     refine WK.nil (QF.normal (hK75 _ ?_))
     refine WK.regx mixed ?_
     refine GX.pure (v' := .int .i64 ((i75 + 1 : Nat) : Int)) rfl rfl rfl rfl (congrArg (PVal.int .i64) (wrap_up hlt73 hlen_73)) ?_
     refine GX.m rfl ?_
     refine GX.done ?_
     refine WK.nil (QF.normal ?_)
     exact hagain_73 _ (c73.length - (i75 + 1)) ⟨[(3, .ptr 0 0), (6, .mapr 1), (7, .own 2 4 0 ask7.length), (15, .own 3 1 0 send15.length), (73, .ro 4 (c73.map TEntry.c)), (74, .int .i64 (c73.length : Int)), (75, .int .i64 ((i75 + 1) : Int))], [(0, .box (TList.c x1)), (1, .mp (told6.map (encM .u64 (fun y => .agg (TEntry.c y))))), (2, .row 4 25 (ask7.map TEntry.c)), (3, .row 1 22 (send15.map c_u64))], 4⟩ (by omega) (Conv.keep [0, 1, 2, 3] [] [3, 6, 7, 15, 73, 74, 75] rfl rfl (viewE_cons rfl rfl (viewE_cons rfl rfl (viewE_cons rfl rfl (viewE_cons rfl rfl (viewE_cons rfl rfl (viewE_cons rfl rfl (viewE_cons rfl rfl viewE_nil))))))) rfl rfl) ⟨i75 + 1, send15, (by omega), rfl, (by omega), hL_73, rfl⟩
    ·rw [hb80]; try simp only [hb80, bb] at hL_73
     refine WK.condT rfl ?_
     refine WK.regx mixed ?_
     refine GX.m rfl ?_
     refine GX.q (.ptr 4 1) ?_
     refine GX.q (.int .u64 x75.ID) ?_
     refine GX.step (v' := .own 6 1 0 (([x75.ID] : List Int)).length) (heap' := [(0, .box (TList.c x1)), (1, .mp (told6.map (encM .u64 (fun y => .agg (TEntry.c y))))), (2, .row 4 25 (ask7.map TEntry.c)), (3, .row 1 22 (send15.map c_u64)), (4, .box (TEntry.c x75)), (5, .box [.int .i64 (((findM told6 x75.ID).getD (⟨0, 0, 0, 0⟩ : TEntry)).Life), .int .u64 (((findM told6 x75.ID).getD (⟨0, 0, 0, 0⟩ : TEntry)).ID), .int .u32 (((findM told6 x75.ID).getD (⟨0, 0, 0, 0⟩ : TEntry)).Seq), .int .i64 (((findM told6 x75.ID).getD (⟨0, 0, 0, 0⟩ : TEntry)).Sum)]), (6, .row 1 22 (([x75.ID] : List Int).map c_u64))]) (next' := 7) rfl rfl rfl rfl rfl rfl rfl ?_
     refine GX.appT (c := c_u64) (L := send15) (X := ([x75.ID] : List Int)) (heap' := [(0, .box (TList.c x1)), (1, .mp (told6.map (encM .u64 (fun y => .agg (TEntry.c y))))), (2, .row 4 25 (ask7.map TEntry.c)), (4, .box (TEntry.c x75)), (5, .box [.int .i64 (((findM told6 x75.ID).getD (⟨0, 0, 0, 0⟩ : TEntry)).Life), .int .u64 (((findM told6 x75.ID).getD (⟨0, 0, 0, 0⟩ : TEntry)).ID), .int .u32 (((findM told6 x75.ID).getD (⟨0, 0, 0, 0⟩ : TEntry)).Seq), .int .i64 (((findM told6 x75.ID).getD (⟨0, 0, 0, 0⟩ : TEntry)).Sum)]), (6, .row 1 22 (([x75.ID] : List Int).map c_u64)), (7, .row 1 22 ((send15 ++ ([x75.ID] : List Int)).map c_u64))]) (next' := 8) rfl rfl rfl rfl (elems_own rfl) (by ((try simp only [List.length_append, List.length_cons, List.length_nil, List.length_map, decide_eq_true_eq, decide_eq_false_iff_not] at *) <;> omega)) (by ((try simp only [List.length_append, List.length_cons, List.length_nil, List.length_map, decide_eq_true_eq, decide_eq_false_iff_not] at *) <;> omega)) rfl rfl rfl rfl ?_
     refine GX.m rfl ?_
     refine GX.done ?_
     refine WK.nil (QF.normal (hK75 _ ?_))
     refine WK.regx mixed ?_
     refine GX.pure (v' := .int .i64 ((i75 + 1 : Nat) : Int)) rfl rfl rfl rfl (congrArg (PVal.int .i64) (wrap_up hlt73 hlen_73)) ?_
     refine GX.m rfl ?_
     refine GX.done ?_
     refine WK.nil (QF.normal ?_)
     exact hagain_73 _ (c73.length - (i75 + 1)) ⟨[(3, .ptr 0 0), (6, .mapr 1), (7, .own 2 4 0 ask7.length), (15, .own 3 1 0 (send15 ++ ([x75.ID] : List Int)).length), (73, .ro 4 (c73.map TEntry.c)), (74, .int .i64 (c73.length : Int)), (75, .int .i64 ((i75 + 1) : Int))], [(0, .box (TList.c x1)), (1, .mp (told6.map (encM .u64 (fun y => .agg (TEntry.c y))))), (2, .row 4 25 (ask7.map TEntry.c)), (3, .row 1 22 ((send15 ++ ([x75.ID] : List Int)).map c_u64))], 4⟩ (by omega) (Conv.keep [0, 1, 2, 7] [] [3, 6, 7, 15, 73, 74, 75] rfl rfl (viewE_cons rfl rfl (viewE_cons rfl rfl (viewE_cons rfl rfl (viewE_cons rfl rfl (viewE_cons rfl rfl (viewE_cons rfl rfl (viewE_cons rfl rfl viewE_nil))))))) rfl rfl) ⟨i75 + 1, (send15 ++ ([x75.ID] : List Int)), (by omega), rfl, (by ((try simp only [List.length_append, List.length_cons, List.length_nil, decide_eq_true_eq, decide_eq_false_iff_not] at *) <;> first | omega | (rw [wrap64_of (by omega) (by omega)]; omega))), hL_73, rfl⟩
 ·rw [hb58]
  obtain ⟨x25, hx57, hd57, hlt57⟩ := drop_more hb58
  rw [hd57, F18_link_Differ_l3] at hL_57
  refine WK.condT rfl ?_
  refine WK.skip ?_
  refine WK.seq ?_
  refine WK.blockK (fun _ hK81 => ?_)
  refine WK.sr mixed ?_
  refine GX.idxT (c := TEntry.c) (x := x25) rfl rfl rfl (Int.natCast_nonneg _) hx57 ?_
  refine GX.q (.agg (TEntry.c x25)) ?_
  refine GX.step (v' := .ptr 4 0) (heap' := [(0, .box (TBase.c b0)), (1, .box (TList.c x1)), (2, .mp (told6.map (encM .u64 (fun y => .agg (TEntry.c y))))), (3, .row 4 25 (ask7.map TEntry.c)), (4, .box [.int .i64 0, .int .u64 0, .int .u32 0, .int .i64 0])]) (next' := 5) rfl rfl rfl rfl rfl rfl rfl ?_
  refine GX.step0 (heap' := [(0, .box (TBase.c b0)), (1, .box (TList.c x1)), (2, .mp (told6.map (encM .u64 (fun y => .agg (TEntry.c y))))), (3, .row 4 25 (ask7.map TEntry.c)), (4, .box (TEntry.c x25))]) (next' := 5) rfl rfl rfl rfl rfl ?_
  refine GX.done ?_
  refine WK.seq ?_
  refine WK.sr mixed ?_
  refine GX.m rfl ?_
  refine GX.q (.ptr 4 1) ?_
  refine GX.q (.int .u64 x25.ID) ?_
  refine GX.pure (v' := .tup [.agg [.int .i64 (((findM told6 x25.ID).getD (⟨0, 0, 0, 0⟩ : TEntry)).Life), .int .u64 (((findM told6 x25.ID).getD (⟨0, 0, 0, 0⟩ : TEntry)).ID), .int .u32 (((findM told6 x25.ID).getD (⟨0, 0, 0, 0⟩ : TEntry)).Seq), .int .i64 (((findM told6 x25.ID).getD (⟨0, 0, 0, 0⟩ : TEntry)).Sum)], .bool ((findM told6 x25.ID).isSome)]) rfl rfl rfl (core_lookM2 (e := (fun y => .agg (TEntry.c y))) (z0 := (⟨0, 0, 0, 0⟩ : TEntry)) rfl rfl) rfl ?_
  refine GX.m rfl ?_
  refine GX.q (.agg [.int .i64 (((findM told6 x25.ID).getD (⟨0, 0, 0, 0⟩ : TEntry)).Life), .int .u64 (((findM told6 x25.ID).getD (⟨0, 0, 0, 0⟩ : TEntry)).ID), .int .u32 (((findM told6 x25.ID).getD (⟨0, 0, 0, 0⟩ : TEntry)).Seq), .int .i64 (((findM told6 x25.ID).getD (⟨0, 0, 0, 0⟩ : TEntry)).Sum)]) ?_
  refine GX.q (.bool ((findM told6 x25.ID).isSome)) ?_
  refine GX.step (v' := .ptr 5 0) (heap' := [(0, .box (TBase.c b0)), (1, .box (TList.c x1)), (2, .mp (told6.map (encM .u64 (fun y => .agg (TEntry.c y))))), (3, .row 4 25 (ask7.map TEntry.c)), (4, .box (TEntry.c x25)), (5, .box [.int .i64 0, .int .u64 0, .int .u32 0, .int .i64 0])]) (next' := 6) rfl rfl rfl rfl rfl rfl rfl ?_
  refine GX.step0 (heap' := [(0, .box (TBase.c b0)), (1, .box (TList.c x1)), (2, .mp (told6.map (encM .u64 (fun y => .agg (TEntry.c y))))), (3, .row 4 25 (ask7.map TEntry.c)), (4, .box (TEntry.c x25)), (5, .box [.int .i64 (((findM told6 x25.ID).getD (⟨0, 0, 0, 0⟩ : TEntry)).Life), .int .u64 (((findM told6 x25.ID).getD (⟨0, 0, 0, 0⟩ : TEntry)).ID), .int .u32 (((findM told6 x25.ID).getD (⟨0, 0, 0, 0⟩ : TEntry)).Seq), .int .i64 (((findM told6 x25.ID).getD (⟨0, 0, 0, 0⟩ : TEntry)).Sum)])]) (next' := 6) rfl rfl rfl rfl rfl ?_
  refine GX.m rfl ?_
  refine GX.done ?_
  refine WK.sr mixed ?_
  refine GX.m rfl ?_
  refine GX.done ?_
  rcases bool_two ((findM told6 x25.ID).isSome) with hb82 | hb82
  ·rw [hb82]; try simp only [hb82, bb] at hL_57
   refine WK.condF rfl ?_
   refine WK.skip ?_
   refine WK.sr mixed ?_
   refine GX.m rfl ?_
   refine GX.q (.ptr 4 1) ?_
   refine GX.q (.int .u64 x25.ID) ?_
   refine GX.q (.agg (TEntry.c x25)) ?_
   refine GX.step0 (heap' := [(0, .box (TBase.c b0)), (1, .box (TList.c x1)), (2, .mp ((setM told6 x25.ID x25).map (encM .u64 (fun y => .agg (TEntry.c y))))), (3, .row 4 25 (ask7.map TEntry.c)), (4, .box (TEntry.c x25)), (5, .box [.int .i64 (((findM told6 x25.ID).getD (⟨0, 0, 0, 0⟩ : TEntry)).Life), .int .u64 (((findM told6 x25.ID).getD (⟨0, 0, 0, 0⟩ : TEntry)).ID), .int .u32 (((findM told6 x25.ID).getD (⟨0, 0, 0, 0⟩ : TEntry)).Seq), .int .i64 (((findM told6 x25.ID).getD (⟨0, 0, 0, 0⟩ : TEntry)).Sum)])]) (next' := 6) rfl rfl (core_msetM (e := (fun y => .agg (TEntry.c y))) (y0 := x25) rfl rfl rfl) rfl rfl ?_
   refine GX.done ?_
   refine WK.sr mixed ?_
   refine GX.q (.ptr 4 1) ?_
   refine GX.q (.int .u64 x25.ID) ?_
   refine GX.q (.agg [.int .i64 0, .int .u64 x25.ID, .int .u32 0, .int .i64 0]) ?_
   refine GX.step (v' := .ptr 6 0) (heap' := [(0, .box (TBase.c b0)), (1, .box (TList.c x1)), (2, .mp ((setM told6 x25.ID x25).map (encM .u64 (fun y => .agg (TEntry.c y))))), (3, .row 4 25 (ask7.map TEntry.c)), (4, .box (TEntry.c x25)), (5, .box [.int .i64 (((findM told6 x25.ID).getD (⟨0, 0, 0, 0⟩ : TEntry)).Life), .int .u64 (((findM told6 x25.ID).getD (⟨0, 0, 0, 0⟩ : TEntry)).ID), .int .u32 (((findM told6 x25.ID).getD (⟨0, 0, 0, 0⟩ : TEntry)).Seq), .int .i64 (((findM told6 x25.ID).getD (⟨0, 0, 0, 0⟩ : TEntry)).Sum)]), (6, .box [.int .i64 0, .int .u64 0, .int .u32 0, .int .i64 0])]) (next' := 7) rfl rfl rfl rfl rfl rfl rfl ?_
   refine GX.step0 (heap' := [(0, .box (TBase.c b0)), (1, .box (TList.c x1)), (2, .mp ((setM told6 x25.ID x25).map (encM .u64 (fun y => .agg (TEntry.c y))))), (3, .row 4 25 (ask7.map TEntry.c)), (4, .box (TEntry.c x25)), (5, .box [.int .i64 (((findM told6 x25.ID).getD (⟨0, 0, 0, 0⟩ : TEntry)).Life), .int .u64 (((findM told6 x25.ID).getD (⟨0, 0, 0, 0⟩ : TEntry)).ID), .int .u32 (((findM told6 x25.ID).getD (⟨0, 0, 0, 0⟩ : TEntry)).Seq), .int .i64 (((findM told6 x25.ID).getD (⟨0, 0, 0, 0⟩ : TEntry)).Sum)]), (6, .box [.int .i64 0, .int .u64 x25.ID, .int .u32 0, .int .i64 0])]) (next' := 7) rfl rfl rfl rfl rfl ?_
   refine GX.done ?_
   refine WK.sr mixed ?_
   refine GX.q (.agg (TBase.c b0)) ?_
   refine GX.q (.ptr 4 1) ?_
   refine GX.q (.int .u64 x25.ID) ?_
   generalize hc48 : F47_link_Find b0 x25.ID = c48 at hL_57
   have hpo0_c48 := post_Find b0 x25.ID (by omega); rw [hc48] at hpo0_c48
   obtain ⟨c48a, c48b⟩ := c48; try dsimp only at hL_57; try dsimp only at hpo0_c48
   refine GX.callp (r := .tup [.agg [.int .i64 c48a.Level, .int .i64 c48a.Life, .int .u64 c48a.ID, .int .u32 c48a.Seq, .int .i64 c48a.Sum, .int .i64 c48a.Bits, .ro 2 (c48a.Things.map TThing.c)], .bool c48b]) rfl rfl rfl (f47_ok b0 x25.ID (by omega) _ hc48) rfl rfl ?_
   refine GX.m rfl ?_
   refine GX.q (.agg [.int .i64 c48a.Level, .int .i64 c48a.Life, .int .u64 c48a.ID, .int .u32 c48a.Seq, .int .i64 c48a.Sum, .int .i64 c48a.Bits, .ro 2 (c48a.Things.map TThing.c)]) ?_
   refine GX.q (.bool c48b) ?_
   refine GX.step (v' := .ptr 7 0) (heap' := [(0, .box (TBase.c b0)), (1, .box (TList.c x1)), (2, .mp ((setM told6 x25.ID x25).map (encM .u64 (fun y => .agg (TEntry.c y))))), (3, .row 4 25 (ask7.map TEntry.c)), (4, .box (TEntry.c x25)), (5, .box [.int .i64 (((findM told6 x25.ID).getD (⟨0, 0, 0, 0⟩ : TEntry)).Life), .int .u64 (((findM told6 x25.ID).getD (⟨0, 0, 0, 0⟩ : TEntry)).ID), .int .u32 (((findM told6 x25.ID).getD (⟨0, 0, 0, 0⟩ : TEntry)).Seq), .int .i64 (((findM told6 x25.ID).getD (⟨0, 0, 0, 0⟩ : TEntry)).Sum)]), (6, .box [.int .i64 0, .int .u64 x25.ID, .int .u32 0, .int .i64 0]), (7, .box [.int .i64 0, .int .i64 0, .int .u64 0, .int .u32 0, .int .i64 0, .int .i64 0, .nils])]) (next' := 8) rfl rfl rfl rfl rfl rfl rfl ?_
   refine GX.step0 (heap' := [(0, .box (TBase.c b0)), (1, .box (TList.c x1)), (2, .mp ((setM told6 x25.ID x25).map (encM .u64 (fun y => .agg (TEntry.c y))))), (3, .row 4 25 (ask7.map TEntry.c)), (4, .box (TEntry.c x25)), (5, .box [.int .i64 (((findM told6 x25.ID).getD (⟨0, 0, 0, 0⟩ : TEntry)).Life), .int .u64 (((findM told6 x25.ID).getD (⟨0, 0, 0, 0⟩ : TEntry)).ID), .int .u32 (((findM told6 x25.ID).getD (⟨0, 0, 0, 0⟩ : TEntry)).Seq), .int .i64 (((findM told6 x25.ID).getD (⟨0, 0, 0, 0⟩ : TEntry)).Sum)]), (6, .box [.int .i64 0, .int .u64 x25.ID, .int .u32 0, .int .i64 0]), (7, .box (TLsp.c c48a))]) (next' := 8) rfl rfl rfl rfl rfl ?_
   refine GX.m rfl ?_
   refine GX.done ?_
   refine WK.seq ?_
   refine WK.sr mixed ?_
   refine GX.m rfl ?_
   refine GX.done ?_
   rcases bool_two (c48b) with hb83 | hb83
   ·rw [hb83]; try simp only [hb83, bb] at hL_57
    refine WK.condF rfl ?_
    refine WK.skip ?_
    refine WK.sr mixed ?_
    refine GX.q (.ptr 4 0) ?_
    refine GX.q (.int .i64 x25.Life) ?_
    refine GX.q (.bool (!decide (x25.Life = 0))) ?_
    refine GX.m rfl ?_
    rcases bool_two (decide (x25.Life = 0)) with hb84 | hb84
    ·rw [hb84]; try simp only [hb84, bb] at hL_57
     refine GX.m rfl ?_
     refine GX.q (.bool true) ?_
     refine GX.m rfl ?_
     iterate 4 refine GX.skip rfl rfl ?_
     iterate 2 refine GX.q (.bool true) ?_
     refine GX.done ?_
     refine WK.condT rfl ?_
     refine WK.regx mixed ?_
     refine GX.m rfl ?_
     refine GX.q (.agg [.int .i64 0, .int .u64 x25.ID, .int .u32 0, .int .i64 0]) ?_
     refine GX.step (v' := .own 8 4 0 (([(⟨0, x25.ID, 0, 0⟩ : TEntry)] : List TEntry)).length) (heap' := [(0, .box (TBase.c b0)), (1, .box (TList.c x1)), (2, .mp ((setM told6 x25.ID x25).map (encM .u64 (fun y => .agg (TEntry.c y))))), (3, .row 4 25 (ask7.map TEntry.c)), (4, .box (TEntry.c x25)), (5, .box [.int .i64 (((findM told6 x25.ID).getD (⟨0, 0, 0, 0⟩ : TEntry)).Life), .int .u64 (((findM told6 x25.ID).getD (⟨0, 0, 0, 0⟩ : TEntry)).ID), .int .u32 (((findM told6 x25.ID).getD (⟨0, 0, 0, 0⟩ : TEntry)).Seq), .int .i64 (((findM told6 x25.ID).getD (⟨0, 0, 0, 0⟩ : TEntry)).Sum)]), (6, .box [.int .i64 0, .int .u64 x25.ID, .int .u32 0, .int .i64 0]), (7, .box (TLsp.c c48a)), (8, .row 4 25 (([(⟨0, x25.ID, 0, 0⟩ : TEntry)] : List TEntry).map TEntry.c))]) (next' := 9) rfl rfl rfl rfl rfl rfl rfl ?_
     refine GX.appT (c := TEntry.c) (L := ask7) (X := ([(⟨0, x25.ID, 0, 0⟩ : TEntry)] : List TEntry)) (heap' := [(0, .box (TBase.c b0)), (1, .box (TList.c x1)), (2, .mp ((setM told6 x25.ID x25).map (encM .u64 (fun y => .agg (TEntry.c y))))), (4, .box (TEntry.c x25)), (5, .box [.int .i64 (((findM told6 x25.ID).getD (⟨0, 0, 0, 0⟩ : TEntry)).Life), .int .u64 (((findM told6 x25.ID).getD (⟨0, 0, 0, 0⟩ : TEntry)).ID), .int .u32 (((findM told6 x25.ID).getD (⟨0, 0, 0, 0⟩ : TEntry)).Seq), .int .i64 (((findM told6 x25.ID).getD (⟨0, 0, 0, 0⟩ : TEntry)).Sum)]), (6, .box [.int .i64 0, .int .u64 x25.ID, .int .u32 0, .int .i64 0]), (7, .box (TLsp.c c48a)), (8, .row 4 25 (([(⟨0, x25.ID, 0, 0⟩ : TEntry)] : List TEntry).map TEntry.c)), (9, .row 4 25 ((ask7 ++ ([(⟨0, x25.ID, 0, 0⟩ : TEntry)] : List TEntry)).map TEntry.c))]) (next' := 10) rfl rfl rfl rfl (elems_own rfl) (by ((try simp only [List.length_append, List.length_cons, List.length_nil, List.length_map, decide_eq_true_eq, decide_eq_false_iff_not] at *) <;> omega)) (by ((try simp only [List.length_append, List.length_cons, List.length_nil, List.length_map, decide_eq_true_eq, decide_eq_false_iff_not] at *) <;> omega)) rfl rfl rfl rfl ?_
     refine GX.m rfl ?_
     refine GX.done ?_
     refine WK.nil (QF.normal (hK81 _ ?_))
     refine WK.regx mixed ?_
     refine GX.pure (v' := .int .i64 ((i25 + 1 : Nat) : Int)) rfl rfl rfl rfl (congrArg (PVal.int .i64) (wrap_up hlt57 hlen_57)) ?_
     refine GX.m rfl ?_
     refine GX.done ?_
     refine WK.nil (QF.normal ?_)
     exact hagain_57 _ (x1.L.length - (i25 + 1)) ⟨[(2, .ptr 0 0), (3, .ptr 1 0), (6, .mapr 2), (7, .own 3 4 0 (ask7 ++ ([(⟨0, x25.ID, 0, 0⟩ : TEntry)] : List TEntry)).length), (23, .ro 4 (x1.L.map TEntry.c)), (24, .int .i64 (x1.L.length : Int)), (25, .int .i64 ((i25 + 1) : Int))], [(0, .box (TBase.c b0)), (1, .box (TList.c x1)), (2, .mp ((setM told6 x25.ID x25).map (encM .u64 (fun y => .agg (TEntry.c y))))), (3, .row 4 25 ((ask7 ++ ([(⟨0, x25.ID, 0, 0⟩ : TEntry)] : List TEntry)).map TEntry.c))], 4⟩ (by omega) (Conv.keep [0, 1, 2, 9] [] [2, 3, 6, 7, 23, 24, 25] rfl rfl (viewE_cons rfl rfl (viewE_cons rfl rfl (viewE_cons rfl rfl (viewE_cons rfl rfl (viewE_cons rfl rfl (viewE_cons rfl rfl (viewE_cons rfl rfl viewE_nil))))))) rfl rfl) ⟨i25 + 1, (setM told6 x25.ID x25), (ask7 ++ ([(⟨0, x25.ID, 0, 0⟩ : TEntry)] : List TEntry)), (by omega), rfl, (by ((try simp only [List.length_append, List.length_cons, List.length_nil, decide_eq_true_eq, decide_eq_false_iff_not] at *) <;> first | omega | (rw [wrap64_of (by omega) (by omega)]; omega))), hL_57, rfl⟩
    ·rw [hb84]; try simp only [hb84, bb] at hL_57
     iterate 8 refine GX.skip rfl rfl ?_
     refine GX.q (.bool false) ?_
     refine GX.done ?_
     refine WK.condF rfl ?_
     refine WK.skip ?_
     refine WK.nil (QF.normal (hK81 _ ?_))
     refine WK.regx mixed ?_
     refine GX.pure (v' := .int .i64 ((i25 + 1 : Nat) : Int)) rfl rfl rfl rfl (congrArg (PVal.int .i64) (wrap_up hlt57 hlen_57)) ?_
     refine GX.m rfl ?_
     refine GX.done ?_
     refine WK.nil (QF.normal ?_)
     exact hagain_57 _ (x1.L.length - (i25 + 1)) ⟨[(2, .ptr 0 0), (3, .ptr 1 0), (6, .mapr 2), (7, .own 3 4 0 ask7.length), (23, .ro 4 (x1.L.map TEntry.c)), (24, .int .i64 (x1.L.length : Int)), (25, .int .i64 ((i25 + 1) : Int))], [(0, .box (TBase.c b0)), (1, .box (TList.c x1)), (2, .mp ((setM told6 x25.ID x25).map (encM .u64 (fun y => .agg (TEntry.c y))))), (3, .row 4 25 (ask7.map TEntry.c))], 4⟩ (by omega) (Conv.keep [0, 1, 2, 3] [] [2, 3, 6, 7, 23, 24, 25] rfl rfl (viewE_cons rfl rfl (viewE_cons rfl rfl (viewE_cons rfl rfl (viewE_cons rfl rfl (viewE_cons rfl rfl (viewE_cons rfl rfl (viewE_cons rfl rfl viewE_nil))))))) rfl rfl) ⟨i25 + 1, (setM told6 x25.ID x25), ask7, (by omega), rfl, (by omega), hL_57, rfl⟩
   ·rw [hb83]; try simp only [hb83, bb] at hL_57
    refine WK.condT rfl ?_
    refine WK.regx mixed ?_
    refine GX.q (.agg (TLsp.c c48a)) ?_
    generalize hc53 : F14_link_Entry c48a = c53 at hL_57
    try dsimp only at hL_57
    refine GX.callp (r := .agg [.int .i64 c53.Life, .int .u64 c53.ID, .int .u32 c53.Seq, .int .i64 c53.Sum]) rfl rfl rfl (f14_ok c48a _ hc53) rfl rfl ?_
    refine GX.step0 (heap' := [(0, .box (TBase.c b0)), (1, .box (TList.c x1)), (2, .mp ((setM told6 x25.ID x25).map (encM .u64 (fun y => .agg (TEntry.c y))))), (3, .row 4 25 (ask7.map TEntry.c)), (4, .box (TEntry.c x25)), (5, .box [.int .i64 (((findM told6 x25.ID).getD (⟨0, 0, 0, 0⟩ : TEntry)).Life), .int .u64 (((findM told6 x25.ID).getD (⟨0, 0, 0, 0⟩ : TEntry)).ID), .int .u32 (((findM told6 x25.ID).getD (⟨0, 0, 0, 0⟩ : TEntry)).Seq), .int .i64 (((findM told6 x25.ID).getD (⟨0, 0, 0, 0⟩ : TEntry)).Sum)]), (6, .box (TEntry.c c53)), (7, .box (TLsp.c c48a))]) (next' := 8) rfl rfl rfl rfl rfl ?_
    refine GX.done ?_
    refine WK.sr mixed ?_
    refine GX.q (.ptr 4 0) ?_
    refine GX.q (.int .i64 x25.Life) ?_
    refine GX.q (.bool (!decide (x25.Life = 0))) ?_
    refine GX.m rfl ?_
    rcases bool_two (decide (x25.Life = 0)) with hb85 | hb85
    ·rw [hb85]; try simp only [hb85, bb] at hL_57
     refine GX.m rfl ?_
     refine GX.q (.bool false) ?_
     refine GX.m rfl ?_
     refine GX.q (.agg (TEntry.c x25)) ?_
     refine GX.q (.agg (TEntry.c c53)) ?_
     generalize hc63 : F8_link_Compare x25 c53 = c63 at hL_57
     try dsimp only at hL_57
     refine GX.callp (r := .int .i64 c63) rfl rfl rfl (f8_ok x25 c53 _ hc63) rfl rfl ?_
     iterate 3 refine GX.q (.bool (decide (0 < c63))) ?_
     refine GX.done ?_
     rcases bool_two (decide (0 < c63)) with hb86 | hb86
     ·rw [hb86]; try simp only [hb86, bb] at hL_57
      refine WK.condF rfl ?_
      refine WK.skip ?_
      refine WK.nil (QF.normal (hK81 _ ?_))
      refine WK.regx mixed ?_
      refine GX.pure (v' := .int .i64 ((i25 + 1 : Nat) : Int)) rfl rfl rfl rfl (congrArg (PVal.int .i64) (wrap_up hlt57 hlen_57)) ?_
      refine GX.m rfl ?_
      refine GX.done ?_
      refine WK.nil (QF.normal ?_)
      exact hagain_57 _ (x1.L.length - (i25 + 1)) ⟨[(2, .ptr 0 0), (3, .ptr 1 0), (6, .mapr 2), (7, .own 3 4 0 ask7.length), (23, .ro 4 (x1.L.map TEntry.c)), (24, .int .i64 (x1.L.length : Int)), (25, .int .i64 ((i25 + 1) : Int))], [(0, .box (TBase.c b0)), (1, .box (TList.c x1)), (2, .mp ((setM told6 x25.ID x25).map (encM .u64 (fun y => .agg (TEntry.c y))))), (3, .row 4 25 (ask7.map TEntry.c))], 4⟩ (by omega) (Conv.keep [0, 1, 2, 3] [] [2, 3, 6, 7, 23, 24, 25] rfl rfl (viewE_cons rfl rfl (viewE_cons rfl rfl (viewE_cons rfl rfl (viewE_cons rfl rfl (viewE_cons rfl rfl (viewE_cons rfl rfl (viewE_cons rfl rfl viewE_nil))))))) rfl rfl) ⟨i25 + 1, (setM told6 x25.ID x25), ask7, (by omega), rfl, (by omega), hL_57, rfl⟩
     ·rw [hb86]; try simp only [hb86, bb] at hL_57
      refine WK.condT rfl ?_
      refine WK.regx mixed ?_
      refine GX.m rfl ?_
      refine GX.q (.agg (TEntry.c c53)) ?_
      refine GX.step (v' := .own 8 4 0 (([c53] : List TEntry)).length) (heap' := [(0, .box (TBase.c b0)), (1, .box (TList.c x1)), (2, .mp ((setM told6 x25.ID x25).map (encM .u64 (fun y => .agg (TEntry.c y))))), (3, .row 4 25 (ask7.map TEntry.c)), (4, .box (TEntry.c x25)), (5, .box [.int .i64 (((findM told6 x25.ID).getD (⟨0, 0, 0, 0⟩ : TEntry)).Life), .int .u64 (((findM told6 x25.ID).getD (⟨0, 0, 0, 0⟩ : TEntry)).ID), .int .u32 (((findM told6 x25.ID).getD (⟨0, 0, 0, 0⟩ : TEntry)).Seq), .int .i64 (((findM told6 x25.ID).getD (⟨0, 0, 0, 0⟩ : TEntry)).Sum)]), (6, .box (TEntry.c c53)), (7, .box (TLsp.c c48a)), (8, .row 4 25 (([c53] : List TEntry).map TEntry.c))]) (next' := 9) rfl rfl rfl rfl rfl rfl rfl ?_
      refine GX.appT (c := TEntry.c) (L := ask7) (X := ([c53] : List TEntry)) (heap' := [(0, .box (TBase.c b0)), (1, .box (TList.c x1)), (2, .mp ((setM told6 x25.ID x25).map (encM .u64 (fun y => .agg (TEntry.c y))))), (4, .box (TEntry.c x25)), (5, .box [.int .i64 (((findM told6 x25.ID).getD (⟨0, 0, 0, 0⟩ : TEntry)).Life), .int .u64 (((findM told6 x25.ID).getD (⟨0, 0, 0, 0⟩ : TEntry)).ID), .int .u32 (((findM told6 x25.ID).getD (⟨0, 0, 0, 0⟩ : TEntry)).Seq), .int .i64 (((findM told6 x25.ID).getD (⟨0, 0, 0, 0⟩ : TEntry)).Sum)]), (6, .box (TEntry.c c53)), (7, .box (TLsp.c c48a)), (8, .row 4 25 (([c53] : List TEntry).map TEntry.c)), (9, .row 4 25 ((ask7 ++ ([c53] : List TEntry)).map TEntry.c))]) (next' := 10) rfl rfl rfl rfl (elems_own rfl) (by ((try simp only [List.length_append, List.length_cons, List.length_nil, List.length_map, decide_eq_true_eq, decide_eq_false_iff_not] at *) <;> omega)) (by ((try simp only [List.length_append, List.length_cons, List.length_nil, List.length_map, decide_eq_true_eq, decide_eq_false_iff_not] at *) <;> omega)) rfl rfl rfl rfl ?_
      refine GX.m rfl ?_
      refine GX.done ?_
      refine WK.nil (QF.normal (hK81 _ ?_))
      refine WK.regx mixed ?_
      refine GX.pure (v' := .int .i64 ((i25 + 1 : Nat) : Int)) rfl rfl rfl rfl (congrArg (PVal.int .i64) (wrap_up hlt57 hlen_57)) ?_
      refine GX.m rfl ?_
      refine GX.done ?_
      refine WK.nil (QF.normal ?_)
      exact hagain_57 _ (x1.L.length - (i25 + 1)) ⟨[(2, .ptr 0 0), (3, .ptr 1 0), (6, .mapr 2), (7, .own 3 4 0 (ask7 ++ ([c53] : List TEntry)).length), (23, .ro 4 (x1.L.map TEntry.c)), (24, .int .i64 (x1.L.length : Int)), (25, .int .i64 ((i25 + 1) : Int))], [(0, .box (TBase.c b0)), (1, .box (TList.c x1)), (2, .mp ((setM told6 x25.ID x25).map (encM .u64 (fun y => .agg (TEntry.c y))))), (3, .row 4 25 ((ask7 ++ ([c53] : List TEntry)).map TEntry.c))], 4⟩ (by omega) (Conv.keep [0, 1, 2, 9] [] [2, 3, 6, 7, 23, 24, 25] rfl rfl (viewE_cons rfl rfl (viewE_cons rfl rfl (viewE_cons rfl rfl (viewE_cons rfl rfl (viewE_cons rfl rfl (viewE_cons rfl rfl (viewE_cons rfl rfl viewE_nil))))))) rfl rfl) ⟨i25 + 1, (setM told6 x25.ID x25), (ask7 ++ ([c53] : List TEntry)), (by omega), rfl, (by ((try simp only [List.length_append, List.length_cons, List.length_nil, decide_eq_true_eq, decide_eq_false_iff_not] at *) <;> first | omega | (rw [wrap64_of (by omega) (by omega)]; omega))), hL_57, rfl⟩
    ·rw [hb85]; try simp only [hb85, bb] at hL_57
     iterate 8 refine GX.skip rfl rfl ?_
     refine GX.q (.bool false) ?_
     refine GX.done ?_
     refine WK.condF rfl ?_
     refine WK.skip ?_
     refine WK.nil (QF.normal (hK81 _ ?_))
     refine WK.regx mixed ?_
     refine GX.pure (v' := .int .i64 ((i25 + 1 : Nat) : Int)) rfl rfl rfl rfl (congrArg (PVal.int .i64) (wrap_up hlt57 hlen_57)) ?_
     refine GX.m rfl ?_
     refine GX.done ?_
     refine WK.nil (QF.normal ?_)
     exact hagain_57 _ (x1.L.length - (i25 + 1)) ⟨[(2, .ptr 0 0), (3, .ptr 1 0), (6, .mapr 2), (7, .own 3 4 0 ask7.length), (23, .ro 4 (x1.L.map TEntry.c)), (24, .int .i64 (x1.L.length : Int)), (25, .int .i64 ((i25 + 1) : Int))], [(0, .box (TBase.c b0)), (1, .box (TList.c x1)), (2, .mp ((setM told6 x25.ID x25).map (encM .u64 (fun y => .agg (TEntry.c y))))), (3, .row 4 25 (ask7.map TEntry.c))], 4⟩ (by omega) (Conv.keep [0, 1, 2, 3] [] [2, 3, 6, 7, 23, 24, 25] rfl rfl (viewE_cons rfl rfl (viewE_cons rfl rfl (viewE_cons rfl rfl (viewE_cons rfl rfl (viewE_cons rfl rfl (viewE_cons rfl rfl (viewE_cons rfl rfl viewE_nil))))))) rfl rfl) ⟨i25 + 1, (setM told6 x25.ID x25), ask7, (by omega), rfl, (by omega), hL_57, rfl⟩
  ·rw [hb82]; try simp only [hb82, bb] at hL_57
   refine WK.condT rfl ?_
   refine WK.exit ?_
   refine QF.exit (hK81 _ ?_)
   refine WK.regx mixed ?_
   refine GX.pure (v' := .int .i64 ((i25 + 1 : Nat) : Int)) rfl rfl rfl rfl (congrArg (PVal.int .i64) (wrap_up hlt57 hlen_57)) ?_
   refine GX.m rfl ?_
   refine GX.done ?_
   refine WK.nil (QF.normal ?_)
   exact hagain_57 _ (x1.L.length - (i25 + 1)) ⟨[(2, .ptr 0 0), (3, .ptr 1 0), (6, .mapr 2), (7, .own 3 4 0 ask7.length), (23, .ro 4 (x1.L.map TEntry.c)), (24, .int .i64 (x1.L.length : Int)), (25, .int .i64 ((i25 + 1) : Int))], [(0, .box (TBase.c b0)), (1, .box (TList.c x1)), (2, .mp (told6.map (encM .u64 (fun y => .agg (TEntry.c y))))), (3, .row 4 25 (ask7.map TEntry.c))], 4⟩ (by omega) (Conv.keep [0, 1, 2, 3] [] [2, 3, 6, 7, 23, 24, 25] rfl rfl (viewE_cons rfl rfl (viewE_cons rfl rfl (viewE_cons rfl rfl (viewE_cons rfl rfl (viewE_cons rfl rfl (viewE_cons rfl rfl (viewE_cons rfl rfl viewE_nil))))))) rfl rfl) ⟨i25 + 1, told6, ask7, (by omega), rfl, (by omega), hL_57, rfl⟩

theorem f67_ok (a0 : List TThing) (b1 : List TThing) (R : Bool) (hR : F67_crossroadsref21_Things a0 b1 = R) : FnOk Try.prog 67 [.ro 2 (a0.map TThing.c), .ro 2 (b1.map TThing.c)] [] 0 (.bool R) [] 0 := by
 refine FnOk.wk i67 rfl rfl ?_
 unfold F67_crossroadsref21_Things at hR
 change WK _ _ _ [ac67] _ ⟨[(0, .ro 2 (a0.map TThing.c)), (1, .ro 2 (b1.map TThing.c))], [], 0⟩
 unfold ac67
 refine WK.sr mixed ?_
 refine GX.m rfl ?_
 refine GX.done ?_
 refine WK.seq ?_
 refine WK.sr mixed ?_
 refine GX.m rfl ?_
 refine GX.pure (v' := .int .i64 (a0.length : Int)) rfl rfl rfl rfl (len_map _ _) ?_
 refine GX.m rfl ?_
 refine GX.pure (v' := .int .i64 (b1.length : Int)) rfl rfl rfl rfl (len_map _ _) ?_
 refine GX.q (.bool (!decide ((a0.length : Int) = (b1.length : Int)))) ?_
 refine GX.done ?_
 rcases bool_two (decide ((a0.length : Int) = (b1.length : Int))) with hb1 | hb1
 ·rw [hb1]; try simp only [hb1, bb] at hR
  refine WK.condT rfl ?_
  refine WK.sr mixed ?_
  refine GX.m rfl ?_
  refine GX.done ?_
  refine WK.ret ?_
  subst hR
  exact RetQ.fr [] (.inr rfl) rfl rfl rfl rfl
 ·rw [hb1]; try simp only [hb1, bb] at hR
  refine WK.condF rfl ?_
  refine WK.skip ?_
  refine WK.seq ?_
  refine WK.sr mixed ?_
  refine GX.m rfl ?_
  refine GX.done ?_
  refine WK.len (t := 0) rfl (by simp) (fun hlen_2 => ?_)
  rw [List.length_map] at hlen_2
  generalize hZ_2 : F67_crossroadsref21_Things_l1 b1 0 a0 = Z_2 at hR
  refine WK.forK (fun k s => ∃ (i5 : Nat), i5 ≤ a0.length ∧ k = a0.length - i5 ∧ F67_crossroadsref21_Things_l1 b1 i5 (a0.drop i5) = Z_2 ∧ s = ⟨[(0, .ro 2 (a0.map TThing.c)), (1, .ro 2 (b1.map TThing.c)), (5, .int .i64 (i5 : Int))], [], 0⟩) a0.length ⟨⟨[(0, .ro 2 (a0.map TThing.c)), (1, .ro 2 (b1.map TThing.c)), (5, .int .i64 (0 : Int))], [], 0⟩, Conv.keep [] [] [0, 1, 5] rfl rfl (viewE_cons rfl rfl (viewE_cons rfl rfl (viewE_cons rfl rfl viewE_nil))) rfl rfl, 0, (by omega), rfl, hZ_2, rfl⟩ ?_
  rintro _ _ ⟨i5, hi_2, rfl, hL_2, rfl⟩ again_2 out_2 Q_2 hagain_2 hout_2 hQ_2
  refine WK.seq ?_
  refine WK.sr mixed ?_
  iterate 2 refine GX.m rfl ?_
  refine GX.pure (v' := .int .i64 (a0.length : Int)) rfl rfl rfl rfl (len_map _ _) ?_
  refine GX.q (.bool (decide ((i5 : Int) < (a0.length : Int)))) ?_
  refine GX.done ?_
  rcases bool_two (decide ((i5 : Int) < (a0.length : Int))) with hb3 | hb3
  ·rw [hb3]
   rw [drop_end hb3, F67_crossroadsref21_Things_l1] at hL_2
   refine WK.condF rfl ?_
   refine WK.exit ?_
   refine QF.exit (hout_2 _ ?_)
   subst hL_2
   try dsimp only [cond_true, cond_false] at hR
   refine WK.sr mixed ?_
   refine GX.m rfl ?_
   refine GX.done ?_
   refine WK.ret ?_
   subst hR
   exact RetQ.fr [] (.inr rfl) rfl rfl rfl rfl
  ·rw [hb3]
   obtain ⟨x5, hx2, hd2, hlt2⟩ := drop_more hb3
   rw [hd2, F67_crossroadsref21_Things_l1] at hL_2
   refine WK.condT rfl ?_
   refine WK.skip ?_
   refine WK.seq ?_
   refine WK.blockK (fun _ hK4 => ?_)
   refine WK.seq ?_
   refine WK.drawn mixed ?_
   iterate 2 refine RD.m rfl ?_
   refine RD.idxT (c := TThing.c) (x := x5) rfl rfl rfl (Int.natCast_nonneg _) hx2 ?_
   refine RD.q (.rptr (TThing.c x5)) ?_
   refine RD.q (.int .i64 x5.Kind) ?_
   iterate 2 refine RD.m rfl ?_
   refine RD.idxT (c := TThing.c) (x := (b1.getD i5 default)) rfl rfl rfl (Int.natCast_nonneg _) (getD_at (by ((try simp only [decide_eq_true_eq] at *); first | omega | (rw [wrap64_of (by omega) (by omega)]; omega)))) ?_
   refine RD.q (.rptr [.int .i64 ((b1.getD i5 default).Kind), .ro 1 (((b1.getD i5 default).B).map c_u8)]) ?_
   refine RD.q (.int .i64 ((b1.getD i5 default).Kind)) ?_
   refine RD.q (.bool (!decide (x5.Kind = (b1.getD i5 default).Kind))) ?_
   refine RD.m rfl ?_
   rcases bool_two (decide (x5.Kind = (b1.getD i5 default).Kind)) with hb5 | hb5
   ·rw [hb5]; try simp only [hb5, bb] at hL_2
    iterate 13 refine RD.skip rfl rfl ?_
    refine RD.q (.bool true) ?_
    refine RD.doneB [0, 0, 3, 7, 15, 0, 0, 96, 224, 480, 1023, 2047, 4095, 4095, 16383, 32767, 65535, 131071, 4095, 4095, 790527, 1839103, 3936255, 8130559, 16777215, 33554431] (by kernel_rfl) (by kernel_rfl) (by kernel_rfl) ?_
    refine WK.condT rfl ?_
    refine WK.sr mixed ?_
    refine GX.m rfl ?_
    refine GX.done ?_
    refine WK.ret ?_
    refine QF.ret ?_
    refine QF.ret (hQ_2 _ _ ?_)
    subst hL_2
    subst hR
    exact RetQ.fr [] (.inr rfl) rfl rfl rfl rfl
   ·rw [hb5]; try simp only [hb5, bb] at hL_2
    iterate 2 refine RD.m rfl ?_
    refine RD.idxT (c := TThing.c) (x := x5) rfl rfl rfl (Int.natCast_nonneg _) hx2 ?_
    refine RD.q (.rptr [.ro 1 (x5.B.map c_u8)]) ?_
    refine RD.q (.ro 1 (x5.B.map c_u8)) ?_
    refine RD.pure (v' := .str (strNums x5.B)) rfl rfl rfl (core_bstrT (L := x5.B) elems_ro) rfl ?_
    iterate 2 refine RD.m rfl ?_
    refine RD.idxT (c := TThing.c) (x := (b1.getD i5 default)) rfl rfl rfl (Int.natCast_nonneg _) (getD_at (by ((try simp only [decide_eq_true_eq] at *); first | omega | (rw [wrap64_of (by omega) (by omega)]; omega)))) ?_
    refine RD.q (.rptr [.ro 1 (((b1.getD i5 default).B).map c_u8)]) ?_
    refine RD.q (.ro 1 (((b1.getD i5 default).B).map c_u8)) ?_
    refine RD.pure (v' := .str (strNums ((b1.getD i5 default).B))) rfl rfl rfl (core_bstrT (L := (b1.getD i5 default).B) elems_ro) rfl ?_
    iterate 2 refine RD.q (.bool (!((strNums x5.B).toList == (strNums ((b1.getD i5 default).B)).toList))) ?_
    refine RD.doneB [0, 0, 3, 7, 15, 0, 0, 96, 224, 480, 1023, 2047, 4095, 4095, 16383, 32767, 65535, 131071, 4095, 4095, 790527, 1839103, 3936255, 8130559, 16777215, 33554431] (by kernel_rfl) (by kernel_rfl) (by kernel_rfl) ?_
    rcases bool_two ((strNums x5.B).toList == (strNums ((b1.getD i5 default).B)).toList) with hb6 | hb6
    ·rw [hb6]; try simp only [hb6, bb] at hL_2
     refine WK.condT rfl ?_
     refine WK.sr mixed ?_
     refine GX.m rfl ?_
     refine GX.done ?_
     refine WK.ret ?_
     refine QF.ret ?_
     refine QF.ret (hQ_2 _ _ ?_)
     subst hL_2
     subst hR
     exact RetQ.fr [] (.inr rfl) rfl rfl rfl rfl
    ·rw [hb6]; try simp only [hb6, bb] at hL_2
     refine WK.condF rfl ?_
     refine WK.skip ?_
     refine WK.nil (QF.normal (hK4 _ ?_))
     refine WK.regx mixed ?_
     refine GX.m rfl ?_
     refine GX.pure (v' := .int .i64 ((i5 + 1 : Nat) : Int)) rfl rfl rfl rfl (congrArg (PVal.int .i64) (wrap_up hlt2 hlen_2)) ?_
     refine GX.m rfl ?_
     refine GX.done ?_
     refine WK.nil (QF.normal ?_)
     exact hagain_2 _ (a0.length - (i5 + 1)) ⟨[(0, .ro 2 (a0.map TThing.c)), (1, .ro 2 (b1.map TThing.c)), (5, .int .i64 ((i5 + 1) : Int))], [], 0⟩ (by omega) (Conv.keep [] [] [0, 1, 5] rfl rfl (viewE_cons rfl rfl (viewE_cons rfl rfl (viewE_cons rfl rfl viewE_nil))) rfl rfl) ⟨i5 + 1, (by omega), rfl, hL_2, rfl⟩

theorem f52_ok (a0 : TLsp) (b1 : TLsp) (R : Bool) (hR : F52_crossroadsref22_SameLsp a0 b1 = R) : FnOk Try.prog 52 [.agg (TLsp.c a0), .agg (TLsp.c b1)] [] 0 (.bool R) [] 0 := by
 refine FnOk.wk i52 rfl rfl ?_
 unfold F52_crossroadsref22_SameLsp at hR
 change WK _ _ _ [ac52] _ ⟨[(0, .agg (TLsp.c a0)), (1, .agg (TLsp.c b1))], [], 0⟩
 unfold ac52
 refine WK.sr mixed ?_
 refine GX.step (v' := .ptr 0 0) (heap' := [(0, .box (TLsp.c a0))]) (next' := 1) rfl rfl rfl rfl rfl rfl rfl ?_
 refine GX.step (v' := .ptr 1 0) (heap' := [(0, .box (TLsp.c a0)), (1, .box (TLsp.c b1))]) (next' := 2) rfl rfl rfl rfl rfl rfl rfl ?_
 refine GX.m rfl ?_
 refine GX.done ?_
 refine WK.sr mixed ?_
 refine GX.q (.ptr 0 0) ?_
 refine GX.q (.int .i64 a0.Level) ?_
 refine GX.q (.ptr 1 0) ?_
 refine GX.q (.int .i64 b1.Level) ?_
 refine GX.q (.bool (decide (a0.Level = b1.Level))) ?_
 refine GX.m rfl ?_
 rcases bool_two (decide (a0.Level = b1.Level)) with hb1 | hb1
 ·rw [hb1]; try simp only [hb1, bb] at hR
  iterate 5 refine GX.skip rfl rfl ?_
  refine GX.q (.bool false) ?_
  refine GX.m rfl ?_
  iterate 5 refine GX.skip rfl rfl ?_
  refine GX.q (.bool false) ?_
  refine GX.m rfl ?_
  iterate 5 refine GX.skip rfl rfl ?_
  refine GX.q (.bool false) ?_
  refine GX.m rfl ?_
  iterate 5 refine GX.skip rfl rfl ?_
  refine GX.q (.bool false) ?_
  refine GX.m rfl ?_
  iterate 5 refine GX.skip rfl rfl ?_
  refine GX.q (.bool false) ?_
  refine GX.m rfl ?_
  iterate 5 refine GX.skip rfl rfl ?_
  refine GX.q (.bool false) ?_
  refine GX.m rfl ?_
  refine GX.done ?_
  refine WK.ret ?_
  subst hR
  exact RetQ.fr [] (.inr rfl) rfl rfl rfl rfl
 ·rw [hb1]; try simp only [hb1, bb] at hR
  refine GX.q (.ptr 0 1) ?_
  refine GX.q (.int .i64 a0.Life) ?_
  refine GX.q (.ptr 1 1) ?_
  refine GX.q (.int .i64 b1.Life) ?_
  iterate 2 refine GX.q (.bool (decide (a0.Life = b1.Life))) ?_
  refine GX.m rfl ?_
  rcases bool_two (decide (a0.Life = b1.Life)) with hb2 | hb2
  ·rw [hb2]; try simp only [hb2, bb] at hR
   iterate 5 refine GX.skip rfl rfl ?_
   refine GX.q (.bool false) ?_
   refine GX.m rfl ?_
   iterate 5 refine GX.skip rfl rfl ?_
   refine GX.q (.bool false) ?_
   refine GX.m rfl ?_
   iterate 5 refine GX.skip rfl rfl ?_
   refine GX.q (.bool false) ?_
   refine GX.m rfl ?_
   iterate 5 refine GX.skip rfl rfl ?_
   refine GX.q (.bool false) ?_
   refine GX.m rfl ?_
   iterate 5 refine GX.skip rfl rfl ?_
   refine GX.q (.bool false) ?_
   refine GX.m rfl ?_
   refine GX.done ?_
   refine WK.ret ?_
   subst hR
   exact RetQ.fr [] (.inr rfl) rfl rfl rfl rfl
  ·rw [hb2]; try simp only [hb2, bb] at hR
   refine GX.q (.ptr 0 2) ?_
   refine GX.q (.int .u64 a0.ID) ?_
   refine GX.q (.ptr 1 2) ?_
   refine GX.q (.int .u64 b1.ID) ?_
   iterate 2 refine GX.q (.bool (decide (a0.ID = b1.ID))) ?_
   refine GX.m rfl ?_
   rcases bool_two (decide (a0.ID = b1.ID)) with hb3 | hb3
   ·rw [hb3]; try simp only [hb3, bb] at hR
    iterate 5 refine GX.skip rfl rfl ?_
    refine GX.q (.bool false) ?_
    refine GX.m rfl ?_
    iterate 5 refine GX.skip rfl rfl ?_
    refine GX.q (.bool false) ?_
    refine GX.m rfl ?_
    iterate 5 refine GX.skip rfl rfl ?_
    refine GX.q (.bool false) ?_
    refine GX.m rfl ?_
    iterate 5 refine GX.skip rfl rfl ?_
    refine GX.q (.bool false) ?_
    refine GX.m rfl ?_
    refine GX.done ?_
    refine WK.ret ?_
    subst hR
    exact RetQ.fr [] (.inr rfl) rfl rfl rfl rfl
   ·rw [hb3]; try simp only [hb3, bb] at hR
    refine GX.q (.ptr 0 3) ?_
    refine GX.q (.int .u32 a0.Seq) ?_
    refine GX.q (.ptr 1 3) ?_
    refine GX.q (.int .u32 b1.Seq) ?_
    iterate 2 refine GX.q (.bool (decide (a0.Seq = b1.Seq))) ?_
    refine GX.m rfl ?_
    rcases bool_two (decide (a0.Seq = b1.Seq)) with hb4 | hb4
    ·rw [hb4]; try simp only [hb4, bb] at hR
     iterate 5 refine GX.skip rfl rfl ?_
     refine GX.q (.bool false) ?_
     refine GX.m rfl ?_
     iterate 5 refine GX.skip rfl rfl ?_
     refine GX.q (.bool false) ?_
     refine GX.m rfl ?_
     iterate 5 refine GX.skip rfl rfl ?_
     refine GX.q (.bool false) ?_
     refine GX.m rfl ?_
     refine GX.done ?_
     refine WK.ret ?_
     subst hR
     exact RetQ.fr [] (.inr rfl) rfl rfl rfl rfl
    ·rw [hb4]; try simp only [hb4, bb] at hR
     refine GX.q (.ptr 0 4) ?_
     refine GX.q (.int .i64 a0.Sum) ?_
     refine GX.q (.ptr 1 4) ?_
     refine GX.q (.int .i64 b1.Sum) ?_
     iterate 2 refine GX.q (.bool (decide (a0.Sum = b1.Sum))) ?_
     refine GX.m rfl ?_
     rcases bool_two (decide (a0.Sum = b1.Sum)) with hb5 | hb5
     ·rw [hb5]; try simp only [hb5, bb] at hR
      iterate 5 refine GX.skip rfl rfl ?_
      refine GX.q (.bool false) ?_
      refine GX.m rfl ?_
      iterate 5 refine GX.skip rfl rfl ?_
      refine GX.q (.bool false) ?_
      refine GX.m rfl ?_
      refine GX.done ?_
      refine WK.ret ?_
      subst hR
      exact RetQ.fr [] (.inr rfl) rfl rfl rfl rfl
     ·rw [hb5]; try simp only [hb5, bb] at hR
      refine GX.q (.ptr 0 5) ?_
      refine GX.q (.int .i64 a0.Bits) ?_
      refine GX.q (.ptr 1 5) ?_
      refine GX.q (.int .i64 b1.Bits) ?_
      iterate 2 refine GX.q (.bool (decide (a0.Bits = b1.Bits))) ?_
      refine GX.m rfl ?_
      rcases bool_two (decide (a0.Bits = b1.Bits)) with hb6 | hb6
      ·rw [hb6]; try simp only [hb6, bb] at hR
       iterate 5 refine GX.skip rfl rfl ?_
       refine GX.q (.bool false) ?_
       refine GX.m rfl ?_
       refine GX.done ?_
       refine WK.ret ?_
       subst hR
       exact RetQ.fr [] (.inr rfl) rfl rfl rfl rfl
      ·rw [hb6]; try simp only [hb6, bb] at hR
       refine GX.q (.ptr 0 6) ?_
       refine GX.q (.ro 2 (a0.Things.map TThing.c)) ?_
       refine GX.q (.ptr 1 6) ?_
       refine GX.q (.ro 2 (b1.Things.map TThing.c)) ?_
       generalize hc50 : F67_crossroadsref21_Things a0.Things b1.Things = c50 at hR
       try dsimp only at hR
       refine GX.callp (r := .bool c50) rfl rfl rfl (f67_ok a0.Things b1.Things _ hc50) rfl rfl ?_
       refine GX.q (.bool c50) ?_
       refine GX.m rfl ?_
       refine GX.done ?_
       refine WK.ret ?_
       subst hR
       exact RetQ.fr [] (.inr rfl) rfl rfl rfl rfl

theorem f22_ok (a0 : TBase) (b1 : TBase) (R : Bool) (hR : F22_crossroadsref23_Same a0 b1 = R) : FnOk Try.prog 22 [.agg (TBase.c a0), .agg (TBase.c b1)] [] 0 (.bool R) [] 0 := by
 refine FnOk.wk i22 rfl rfl ?_
 unfold F22_crossroadsref23_Same at hR
 change WK _ _ _ [ac22] _ ⟨[(0, .agg (TBase.c a0)), (1, .agg (TBase.c b1))], [], 0⟩
 unfold ac22
 refine WK.sr mixed ?_
 refine GX.step (v' := .ptr 0 0) (heap' := [(0, .box (TBase.c a0))]) (next' := 1) rfl rfl rfl rfl rfl rfl rfl ?_
 refine GX.step (v' := .ptr 1 0) (heap' := [(0, .box (TBase.c a0)), (1, .box (TBase.c b1))]) (next' := 2) rfl rfl rfl rfl rfl rfl rfl ?_
 refine GX.m rfl ?_
 refine GX.done ?_
 refine WK.seq ?_
 refine WK.sr mixed ?_
 refine GX.q (.ptr 0 0) ?_
 refine GX.q (.int .i64 a0.Level) ?_
 refine GX.q (.ptr 1 0) ?_
 refine GX.q (.int .i64 b1.Level) ?_
 refine GX.q (.bool (!decide (a0.Level = b1.Level))) ?_
 refine GX.m rfl ?_
 rcases bool_two (decide (a0.Level = b1.Level)) with hb1 | hb1
 ·rw [hb1]; try simp only [hb1, bb] at hR
  iterate 5 refine GX.skip rfl rfl ?_
  refine GX.q (.bool true) ?_
  refine GX.m rfl ?_
  iterate 5 refine GX.skip rfl rfl ?_
  refine GX.q (.bool true) ?_
  refine GX.m rfl ?_
  iterate 7 refine GX.skip rfl rfl ?_
  refine GX.q (.bool true) ?_
  refine GX.done ?_
  refine WK.condT rfl ?_
  refine WK.sr mixed ?_
  refine GX.m rfl ?_
  refine GX.done ?_
  refine WK.ret ?_
  subst hR
  exact RetQ.fr [] (.inr rfl) rfl rfl rfl rfl
 ·rw [hb1]; try simp only [hb1, bb] at hR
  refine GX.q (.ptr 0 1) ?_
  refine GX.q (.int .i64 a0.Max) ?_
  refine GX.q (.ptr 1 1) ?_
  refine GX.q (.int .i64 b1.Max) ?_
  iterate 2 refine GX.q (.bool (!decide (a0.Max = b1.Max))) ?_
  refine GX.m rfl ?_
  rcases bool_two (decide (a0.Max = b1.Max)) with hb2 | hb2
  ·rw [hb2]; try simp only [hb2, bb] at hR
   iterate 5 refine GX.skip rfl rfl ?_
   refine GX.q (.bool true) ?_
   refine GX.m rfl ?_
   iterate 7 refine GX.skip rfl rfl ?_
   refine GX.q (.bool true) ?_
   refine GX.done ?_
   refine WK.condT rfl ?_
   refine WK.sr mixed ?_
   refine GX.m rfl ?_
   refine GX.done ?_
   refine WK.ret ?_
   subst hR
   exact RetQ.fr [] (.inr rfl) rfl rfl rfl rfl
  ·rw [hb2]; try simp only [hb2, bb] at hR
   refine GX.q (.ptr 0 3) ?_
   refine GX.q (.bool a0.Over) ?_
   refine GX.q (.ptr 1 3) ?_
   refine GX.q (.bool b1.Over) ?_
   iterate 2 refine GX.q (.bool (!(a0.Over == b1.Over))) ?_
   refine GX.m rfl ?_
   rcases bool_two (a0.Over == b1.Over) with hb3 | hb3
   ·rw [hb3]; try simp only [hb3, bb] at hR
    iterate 7 refine GX.skip rfl rfl ?_
    refine GX.q (.bool true) ?_
    refine GX.done ?_
    refine WK.condT rfl ?_
    refine WK.sr mixed ?_
    refine GX.m rfl ?_
    refine GX.done ?_
    refine WK.ret ?_
    subst hR
    exact RetQ.fr [] (.inr rfl) rfl rfl rfl rfl
   ·rw [hb3]; try simp only [hb3, bb] at hR
    refine GX.q (.ptr 0 2) ?_
    refine GX.q (.ro 7 (a0.L.map TLsp.c)) ?_
    refine GX.pure (v' := .int .i64 (a0.L.length : Int)) rfl rfl rfl rfl (len_map _ _) ?_
    refine GX.q (.ptr 1 2) ?_
    refine GX.q (.ro 7 (b1.L.map TLsp.c)) ?_
    refine GX.pure (v' := .int .i64 (b1.L.length : Int)) rfl rfl rfl rfl (len_map _ _) ?_
    iterate 2 refine GX.q (.bool (!decide ((a0.L.length : Int) = (b1.L.length : Int)))) ?_
    refine GX.done ?_
    rcases bool_two (decide ((a0.L.length : Int) = (b1.L.length : Int))) with hb4 | hb4
    ·rw [hb4]; try simp only [hb4, bb] at hR
     refine WK.condT rfl ?_
     refine WK.sr mixed ?_
     refine GX.m rfl ?_
     refine GX.done ?_
     refine WK.ret ?_
     subst hR
     exact RetQ.fr [] (.inr rfl) rfl rfl rfl rfl
    ·rw [hb4]; try simp only [hb4, bb] at hR
     refine WK.condF rfl ?_
     refine WK.skip ?_
     refine WK.seq ?_
     refine WK.sr mixed ?_
     refine GX.m rfl ?_
     refine GX.done ?_
     refine WK.len (t := 27) rfl (by simp) (fun hlen_5 => ?_)
     rw [List.length_map] at hlen_5
     generalize hZ_5 : F22_crossroadsref23_Same_l1 b1 0 a0.L = Z_5 at hR
     refine WK.forK (fun k s => ∃ (i5 : Nat), i5 ≤ a0.L.length ∧ k = a0.L.length - i5 ∧ F22_crossroadsref23_Same_l1 b1 i5 (a0.L.drop i5) = Z_5 ∧ s = ⟨[(2, .ptr 0 0), (3, .ptr 1 0), (5, .int .i64 (i5 : Int))], [(0, .box (TBase.c a0)), (1, .box (TBase.c b1))], 2⟩) a0.L.length ⟨⟨[(2, .ptr 0 0), (3, .ptr 1 0), (5, .int .i64 (0 : Int))], [(0, .box (TBase.c a0)), (1, .box (TBase.c b1))], 2⟩, Conv.keep [0, 1] [] [2, 3, 5] rfl rfl (viewE_cons rfl rfl (viewE_cons rfl rfl (viewE_cons rfl rfl viewE_nil))) rfl rfl, 0, (by omega), rfl, hZ_5, rfl⟩ ?_
     rintro _ _ ⟨i5, hi_5, rfl, hL_5, rfl⟩ again_5 out_5 Q_5 hagain_5 hout_5 hQ_5
     refine WK.seq ?_
     refine WK.sr mixed ?_
     refine GX.m rfl ?_
     refine GX.q (.ptr 0 2) ?_
     refine GX.q (.ro 7 (a0.L.map TLsp.c)) ?_
     refine GX.pure (v' := .int .i64 (a0.L.length : Int)) rfl rfl rfl rfl (len_map _ _) ?_
     refine GX.q (.bool (decide ((i5 : Int) < (a0.L.length : Int)))) ?_
     refine GX.done ?_
     rcases bool_two (decide ((i5 : Int) < (a0.L.length : Int))) with hb6 | hb6
     ·rw [hb6]
      rw [drop_end hb6, F22_crossroadsref23_Same_l1] at hL_5
      refine WK.condF rfl ?_
      refine WK.exit ?_
      refine QF.exit (hout_5 _ ?_)
      subst hL_5
      try dsimp only [cond_true, cond_false] at hR
      refine WK.sr mixed ?_
      refine GX.m rfl ?_
      refine GX.done ?_
      refine WK.ret ?_
      subst hR
      exact RetQ.fr [] (.inr rfl) rfl rfl rfl rfl
     ·rw [hb6]
      obtain ⟨x5, hx5, hd5, hlt5⟩ := drop_more hb6
      rw [hd5, F22_crossroadsref23_Same_l1] at hL_5
      refine WK.condT rfl ?_
      refine WK.skip ?_
      refine WK.seq ?_
      refine WK.blockK (fun _ hK7 => ?_)
      refine WK.seq ?_
      refine WK.drawn mixed ?_
      refine RD.q (.ptr 0 2) ?_
      refine RD.q (.ro 7 (a0.L.map TLsp.c)) ?_
      refine RD.m rfl ?_
      refine RD.idxT (c := TLsp.c) (x := x5) rfl rfl rfl (Int.natCast_nonneg _) hx5 ?_
      refine RD.q (.agg (TLsp.c x5)) ?_
      refine RD.q (.ptr 1 2) ?_
      refine RD.q (.ro 7 (b1.L.map TLsp.c)) ?_
      refine RD.m rfl ?_
      refine RD.idxT (c := TLsp.c) (x := (b1.L.getD i5 default)) rfl rfl rfl (Int.natCast_nonneg _) (getD_at (by ((try simp only [decide_eq_true_eq] at *); first | omega | (rw [wrap64_of (by omega) (by omega)]; omega)))) ?_
      refine RD.q (.agg [.int .i64 ((b1.L.getD i5 default).Level), .int .i64 ((b1.L.getD i5 default).Life), .int .u64 ((b1.L.getD i5 default).ID), .int .u32 ((b1.L.getD i5 default).Seq), .int .i64 ((b1.L.getD i5 default).Sum), .int .i64 ((b1.L.getD i5 default).Bits), .ro 2 (((b1.L.getD i5 default).Things).map TThing.c)]) ?_
      generalize hc51 : F52_crossroadsref22_SameLsp x5 (b1.L.getD i5 default) = c51 at hL_5
      try dsimp only at hL_5
      refine RD.callp (r := .bool c51) rfl rfl rfl (f52_ok x5 (b1.L.getD i5 default) _ hc51) rfl rfl ?_
      refine RD.q (.bool (!c51)) ?_
      refine RD.done rfl ?_
      rcases bool_two (c51) with hb8 | hb8
      ·rw [hb8]; try simp only [hb8, bb] at hL_5
       refine WK.condT rfl ?_
       refine WK.sr mixed ?_
       refine GX.m rfl ?_
       refine GX.done ?_
       refine WK.ret ?_
       refine QF.ret ?_
       refine QF.ret (hQ_5 _ _ ?_)
       subst hL_5
       subst hR
       exact RetQ.fr [] (.inr rfl) rfl rfl rfl rfl
      ·rw [hb8]; try simp only [hb8, bb] at hL_5
       refine WK.condF rfl ?_
       refine WK.skip ?_
       refine WK.nil (QF.normal (hK7 _ ?_))
       refine WK.regx mixed ?_
       refine GX.m rfl ?_
       refine GX.pure (v' := .int .i64 ((i5 + 1 : Nat) : Int)) rfl rfl rfl rfl (congrArg (PVal.int .i64) (wrap_up hlt5 hlen_5)) ?_
       refine GX.m rfl ?_
       refine GX.done ?_
       refine WK.nil (QF.normal ?_)
       exact hagain_5 _ (a0.L.length - (i5 + 1)) ⟨[(2, .ptr 0 0), (3, .ptr 1 0), (5, .int .i64 ((i5 + 1) : Int))], [(0, .box (TBase.c a0)), (1, .box (TBase.c b1))], 2⟩ (by omega) (Conv.keep [0, 1] [] [2, 3, 5] rfl rfl (viewE_cons rfl rfl (viewE_cons rfl rfl (viewE_cons rfl rfl viewE_nil))) rfl rfl) ⟨i5 + 1, (by omega), rfl, hL_5, rfl⟩

theorem f26_ok (b0 : TBase) (by1 : Int) (hp0 : SmB b0) (R : TBase × (List Int)) (hR : F26_link_Tick b0 by1 = R) : FnOk Try.prog 26 [.agg (TBase.c b0), .int .i64 by1] [] 0 (.tup [.agg (TBase.c R.1), .ro 1 (R.2.map c_u64)]) [] 0 := by
 refine FnOk.wk i26 rfl rfl ?_
 unfold F26_link_Tick at hR
 change WK _ _ _ [ac26] _ ⟨[(0, .agg (TBase.c b0)), (1, .int .i64 by1)], [], 0⟩
 unfold ac26
 refine WK.sr mixed ?_
 refine GX.step (v' := .ptr 0 0) (heap' := [(0, .box (TBase.c b0))]) (next' := 1) rfl rfl rfl rfl rfl rfl rfl ?_
 refine GX.step (v' := .ptr 1 0) (heap' := [(0, .box (TBase.c b0)), (1, .box [.int .i64 0, .int .i64 0, .nils, .bool false])]) (next' := 2) rfl rfl rfl rfl rfl rfl rfl ?_
 refine GX.m rfl ?_
 refine GX.done ?_
 refine WK.sr mixed ?_
 refine GX.q (.ptr 0 2) ?_
 refine GX.q (.ro 7 (b0.L.map TLsp.c)) ?_
 refine GX.callx (r' := .own 2 7 0 b0.L.length) (heap' := [(0, .box (TBase.c b0)), (1, .box [.int .i64 0, .int .i64 0, .nils, .bool false]), (2, .row 7 34 (b0.L.map TLsp.c))]) (next' := 3) [] [] rfl rfl rfl rfl rfl rfl (clone_okT (c := TLsp.c) mixed i51 b0.L (by decide) (by exact SmB.szL (by assumption) (by decide)) (by exact SmB.leL (by assumption))) (.inl rfl) rfl rfl rfl ?_
 refine GX.m rfl ?_
 refine GX.done ?_
 refine WK.sr mixed ?_
 refine GX.m rfl ?_
 refine GX.done ?_
 refine WK.seq ?_
 refine WK.sr mixed ?_
 refine GX.m rfl ?_
 refine GX.q (.int .i64 (b0.L.length : Int)) ?_
 refine GX.m rfl ?_
 refine GX.done ?_
 refine WK.adopt (t := 7) (sz := 1) (ty := 22) (heap' := [(0, .box (TBase.c b0)), (1, .box [.int .i64 0, .int .i64 0, .nils, .bool false]), (2, .row 7 34 (b0.L.map TLsp.c)), (3, .row 1 22 (([] : List Int).map c_u64))]) rfl (by decide) (by simp) rfl ?_
 refine WK.len (t := 11) rfl (by simp) (fun hlen_20 => ?_)
 rw [List.length_map] at hlen_20
 generalize hZ_20 : F26_link_Tick_l1 by1 b0.L ([] : List Int) 0 b0.L = Z_20 at hR
 refine WK.forK (fun k s => ∃ (i15 : Nat) (l6 : List TLsp) (out7 : List Int), i15 ≤ b0.L.length ∧ k = b0.L.length - i15 ∧ out7.length ≤ i15 + 0 ∧ l6.length = b0.L.length ∧ F26_link_Tick_l1 by1 l6 out7 i15 (b0.L.drop i15) = Z_20 ∧ s = ⟨[(1, .int .i64 by1), (2, .ptr 0 0), (4, .ptr 1 0), (6, .own 2 7 0 l6.length), (7, .own 3 1 0 out7.length), (13, .own 2 7 0 l6.length), (14, .int .i64 (b0.L.length : Int)), (15, .int .i64 (i15 : Int))], [(0, .box (TBase.c b0)), (1, .box [.int .i64 0, .int .i64 0, .nils, .bool false]), (2, .row 7 34 (l6.map TLsp.c)), (3, .row 1 22 (out7.map c_u64))], 4⟩) b0.L.length ⟨⟨[(1, .int .i64 by1), (2, .ptr 0 0), (4, .ptr 1 0), (6, .own 2 7 0 b0.L.length), (7, .own 3 1 0 ([] : List Int).length), (13, .own 2 7 0 b0.L.length), (14, .int .i64 (b0.L.length : Int)), (15, .int .i64 (0 : Int))], [(0, .box (TBase.c b0)), (1, .box [.int .i64 0, .int .i64 0, .nils, .bool false]), (2, .row 7 34 (b0.L.map TLsp.c)), (3, .row 1 22 (([] : List Int).map c_u64))], 4⟩, Conv.keep [0, 1, 2, 3] [] [1, 2, 4, 6, 7, 13, 14, 15] rfl rfl (viewE_cons rfl rfl (viewE_cons rfl rfl (viewE_cons rfl rfl (viewE_cons rfl rfl (viewE_cons rfl rfl (viewE_cons rfl rfl (viewE_cons rfl rfl (viewE_cons rfl rfl viewE_nil)))))))) rfl rfl, 0, b0.L, ([] : List Int), (by omega), rfl, (by ((try simp only [List.length_append, List.length_cons, List.length_nil, decide_eq_true_eq, decide_eq_false_iff_not] at *) <;> first | omega | (rw [wrap64_of (by omega) (by omega)]; omega))), (by omega), hZ_20, rfl⟩ ?_
 rintro _ _ ⟨i15, l6, out7, hi_20, rfl, hinv20_out7, hinv20_c1, hL_20, rfl⟩ again_20 out_20 Q_20 hagain_20 hout_20 hQ_20
 refine WK.sr mixed ?_
 refine GX.q (.bool (decide ((i15 : Int) < (b0.L.length : Int)))) ?_
 refine GX.done ?_
 refine WK.seq ?_
 rcases bool_two (decide ((i15 : Int) < (b0.L.length : Int))) with hb21 | hb21
 ·rw [hb21]
  rw [drop_end hb21, F26_link_Tick_l1] at hL_20
  refine WK.condF rfl ?_
  refine WK.exit ?_
  refine QF.exit (hout_20 _ ?_)
  subst hL_20
  try dsimp only [cond_true, cond_false] at hR
  refine WK.sr mixed ?_
  refine GX.m rfl ?_
  refine GX.q (.ptr 0 2) ?_
  refine GX.step0 (heap' := [(0, .box [.int .i64 b0.Level, .int .i64 b0.Max, .own 2 7 0 l6.length, .bool b0.Over]), (1, .box [.int .i64 0, .int .i64 0, .nils, .bool false]), (2, .row 7 34 (l6.map TLsp.c)), (3, .row 1 22 (out7.map c_u64))]) (next' := 4) rfl rfl rfl rfl rfl ?_
  refine GX.done ?_
  refine WK.sr mixed ?_
  refine GX.q (.agg [.int .i64 b0.Level, .int .i64 b0.Max, .own 2 7 0 l6.length, .bool b0.Over]) ?_
  refine GX.m rfl ?_
  refine GX.step0 (heap' := [(0, .box [.int .i64 b0.Level, .int .i64 b0.Max, .own 2 7 0 l6.length, .bool b0.Over]), (1, .box [.int .i64 b0.Level, .int .i64 b0.Max, .own 2 7 0 l6.length, .bool b0.Over]), (2, .row 7 34 (l6.map TLsp.c)), (3, .row 1 22 (out7.map c_u64))]) (next' := 4) rfl rfl rfl rfl rfl ?_
  refine GX.m rfl ?_
  refine GX.done ?_
  refine WK.ret ?_
  subst hR
  exact RetQ.fr [2, 3] (.inr rfl) rfl rfl (viewGo_cons (viewP_agg (viewGo_cons rfl (viewGo_cons rfl (viewGo_cons (view_rowT rfl rfl) (viewGo_cons rfl viewGo_nil))))) (viewGo_cons (view_rowT rfl rfl) viewGo_nil)) rfl
 ·rw [hb21]
  obtain ⟨x15, hx20, hd20, hlt20⟩ := drop_more hb21
  rw [hd20, F26_link_Tick_l1] at hL_20
  refine WK.condT rfl ?_
  refine WK.skip ?_
  refine WK.seq ?_
  refine WK.blockK (fun _ hK22 => ?_)
  refine WK.sr mixed ?_
  refine GX.m rfl ?_
  refine GX.pure (v' := .eptr 2 7 i15 0) rfl rfl rfl (core_idxoT (c := TLsp.c) (L := l6) (j := i15) rfl (by omega) (by omega) (by exact Nat.le_refl _)) rfl ?_
  refine GX.pure (v' := .agg [.int .i64 ((l6.getD i15 default).Level), .int .i64 ((l6.getD i15 default).Life), .int .u64 ((l6.getD i15 default).ID), .int .u32 ((l6.getD i15 default).Seq), .int .i64 ((l6.getD i15 default).Sum), .int .i64 ((l6.getD i15 default).Bits), .ro 2 (((l6.getD i15 default).Things).map TThing.c)]) rfl rfl rfl (core_loaT (c := TLsp.c) (L := l6) (x := (l6.getD i15 default)) rfl (getD_at (by omega)) rfl) rfl ?_
  refine GX.step (v' := .ptr 4 0) (heap' := [(0, .box (TBase.c b0)), (1, .box [.int .i64 0, .int .i64 0, .nils, .bool false]), (2, .row 7 34 (l6.map TLsp.c)), (3, .row 1 22 (out7.map c_u64)), (4, .box [.int .i64 0, .int .i64 0, .int .u64 0, .int .u32 0, .int .i64 0, .int .i64 0, .nils])]) (next' := 5) rfl rfl rfl rfl rfl rfl rfl ?_
  refine GX.m rfl ?_
  refine GX.step0 (heap' := [(0, .box (TBase.c b0)), (1, .box [.int .i64 0, .int .i64 0, .nils, .bool false]), (2, .row 7 34 (l6.map TLsp.c)), (3, .row 1 22 (out7.map c_u64)), (4, .box [.int .i64 ((l6.getD i15 default).Level), .int .i64 ((l6.getD i15 default).Life), .int .u64 ((l6.getD i15 default).ID), .int .u32 ((l6.getD i15 default).Seq), .int .i64 ((l6.getD i15 default).Sum), .int .i64 ((l6.getD i15 default).Bits), .ro 2 (((l6.getD i15 default).Things).map TThing.c)])]) (next' := 5) rfl rfl rfl rfl rfl ?_
  refine GX.done ?_
  refine WK.seq ?_
  refine WK.sr mixed ?_
  refine GX.m rfl ?_
  refine GX.q (.bool (decide (0 < by1))) ?_
  refine GX.done ?_
  rcases bool_two (decide (0 < by1)) with hb23 | hb23
  ·rw [hb23]; try simp only [hb23, bb] at hL_20
   refine WK.condF rfl ?_
   refine WK.skip ?_
   refine WK.sr mixed ?_
   refine GX.q (.ptr 4 1) ?_
   refine GX.q (.int .i64 ((l6.getD i15 default).Life)) ?_
   refine GX.q (.bool (decide (0 < (l6.getD i15 default).Life))) ?_
   refine GX.m rfl ?_
   rcases bool_two (decide (0 < (l6.getD i15 default).Life)) with hb24 | hb24
   ·rw [hb24]; try simp only [hb24, bb] at hL_20
    iterate 6 refine GX.skip rfl rfl ?_
    refine GX.q (.bool false) ?_
    refine GX.done ?_
    refine WK.condF rfl ?_
    refine WK.skip ?_
    refine WK.nil (QF.normal (hK22 _ ?_))
    refine WK.regx mixed ?_
    refine GX.pure (v' := .int .i64 ((i15 + 1 : Nat) : Int)) rfl rfl rfl rfl (congrArg (PVal.int .i64) (wrap_up hlt20 hlen_20)) ?_
    refine GX.m rfl ?_
    refine GX.done ?_
    refine WK.nil (QF.normal ?_)
    exact hagain_20 _ (b0.L.length - (i15 + 1)) ⟨[(1, .int .i64 by1), (2, .ptr 0 0), (4, .ptr 1 0), (6, .own 2 7 0 l6.length), (7, .own 3 1 0 out7.length), (13, .own 2 7 0 l6.length), (14, .int .i64 (b0.L.length : Int)), (15, .int .i64 ((i15 + 1) : Int))], [(0, .box (TBase.c b0)), (1, .box [.int .i64 0, .int .i64 0, .nils, .bool false]), (2, .row 7 34 (l6.map TLsp.c)), (3, .row 1 22 (out7.map c_u64))], 4⟩ (by omega) (Conv.keep [0, 1, 2, 3] [] [1, 2, 4, 6, 7, 13, 14, 15] rfl rfl (viewE_cons rfl rfl (viewE_cons rfl rfl (viewE_cons rfl rfl (viewE_cons rfl rfl (viewE_cons rfl rfl (viewE_cons rfl rfl (viewE_cons rfl rfl (viewE_cons rfl rfl viewE_nil)))))))) rfl rfl) ⟨i15 + 1, l6, out7, (by omega), rfl, (by omega), (by omega), hL_20, rfl⟩
   ·rw [hb24]; try simp only [hb24, bb] at hL_20
    iterate 2 refine GX.m rfl ?_
    refine GX.pure (v' := .eptr 2 7 i15 0) rfl rfl rfl (core_idxoT (c := TLsp.c) (L := l6) (j := i15) rfl (by omega) (by omega) (by exact Nat.le_refl _)) rfl ?_
    refine GX.pure (v' := .eptr 2 7 i15 1) rfl rfl rfl (core_fldT (c := TLsp.c) (L := l6) rfl (by omega) rfl) rfl ?_
    refine GX.pure (v' := .int .i64 ((l6.getD i15 default).Life)) rfl rfl rfl (core_loaT (c := TLsp.c) (L := l6) (x := (l6.getD i15 default)) rfl (getD_at (by omega)) rfl) rfl ?_
    iterate 2 refine GX.q (.bool (decide ((l6.getD i15 default).Life = 0))) ?_
    refine GX.done ?_
    rcases bool_two (decide ((l6.getD i15 default).Life = 0)) with hb25 | hb25
    ·rw [hb25]; try simp only [hb25, bb] at hL_20
     refine WK.condF rfl ?_
     refine WK.skip ?_
     refine WK.nil (QF.normal (hK22 _ ?_))
     refine WK.regx mixed ?_
     refine GX.pure (v' := .int .i64 ((i15 + 1 : Nat) : Int)) rfl rfl rfl rfl (congrArg (PVal.int .i64) (wrap_up hlt20 hlen_20)) ?_
     refine GX.m rfl ?_
     refine GX.done ?_
     refine WK.nil (QF.normal ?_)
     exact hagain_20 _ (b0.L.length - (i15 + 1)) ⟨[(1, .int .i64 by1), (2, .ptr 0 0), (4, .ptr 1 0), (6, .own 2 7 0 l6.length), (7, .own 3 1 0 out7.length), (13, .own 2 7 0 l6.length), (14, .int .i64 (b0.L.length : Int)), (15, .int .i64 ((i15 + 1) : Int))], [(0, .box (TBase.c b0)), (1, .box [.int .i64 0, .int .i64 0, .nils, .bool false]), (2, .row 7 34 (l6.map TLsp.c)), (3, .row 1 22 (out7.map c_u64))], 4⟩ (by omega) (Conv.keep [0, 1, 2, 3] [] [1, 2, 4, 6, 7, 13, 14, 15] rfl rfl (viewE_cons rfl rfl (viewE_cons rfl rfl (viewE_cons rfl rfl (viewE_cons rfl rfl (viewE_cons rfl rfl (viewE_cons rfl rfl (viewE_cons rfl rfl (viewE_cons rfl rfl viewE_nil)))))))) rfl rfl) ⟨i15 + 1, l6, out7, (by omega), rfl, (by omega), (by omega), hL_20, rfl⟩
    ·rw [hb25]; try simp only [hb25, bb] at hL_20
     refine WK.condT rfl ?_
     refine WK.regx mixed ?_
     refine GX.m rfl ?_
     refine GX.q (.ptr 4 2) ?_
     refine GX.q (.int .u64 ((l6.getD i15 default).ID)) ?_
     refine GX.step (v' := .own 5 1 0 (([(l6.getD i15 default).ID] : List Int)).length) (heap' := [(0, .box (TBase.c b0)), (1, .box [.int .i64 0, .int .i64 0, .nils, .bool false]), (2, .row 7 34 (l6.map TLsp.c)), (3, .row 1 22 (out7.map c_u64)), (4, .box [.int .i64 ((l6.getD i15 default).Level), .int .i64 ((l6.getD i15 default).Life), .int .u64 ((l6.getD i15 default).ID), .int .u32 ((l6.getD i15 default).Seq), .int .i64 ((l6.getD i15 default).Sum), .int .i64 ((l6.getD i15 default).Bits), .ro 2 (((l6.getD i15 default).Things).map TThing.c)]), (5, .row 1 22 (([(l6.getD i15 default).ID] : List Int).map c_u64))]) (next' := 6) rfl rfl rfl rfl rfl rfl rfl ?_
     refine GX.appT (c := c_u64) (L := out7) (X := ([(l6.getD i15 default).ID] : List Int)) (heap' := [(0, .box (TBase.c b0)), (1, .box [.int .i64 0, .int .i64 0, .nils, .bool false]), (2, .row 7 34 (l6.map TLsp.c)), (4, .box [.int .i64 ((l6.getD i15 default).Level), .int .i64 ((l6.getD i15 default).Life), .int .u64 ((l6.getD i15 default).ID), .int .u32 ((l6.getD i15 default).Seq), .int .i64 ((l6.getD i15 default).Sum), .int .i64 ((l6.getD i15 default).Bits), .ro 2 (((l6.getD i15 default).Things).map TThing.c)]), (5, .row 1 22 (([(l6.getD i15 default).ID] : List Int).map c_u64)), (6, .row 1 22 ((out7 ++ ([(l6.getD i15 default).ID] : List Int)).map c_u64))]) (next' := 7) rfl rfl rfl rfl (elems_own rfl) (by ((try simp only [List.length_append, List.length_cons, List.length_nil, List.length_map, decide_eq_true_eq, decide_eq_false_iff_not] at *) <;> omega)) (by ((try simp only [List.length_append, List.length_cons, List.length_nil, List.length_map, decide_eq_true_eq, decide_eq_false_iff_not] at *) <;> omega)) rfl rfl rfl rfl ?_
     refine GX.m rfl ?_
     refine GX.done ?_
     refine WK.nil (QF.normal (hK22 _ ?_))
     refine WK.regx mixed ?_
     refine GX.pure (v' := .int .i64 ((i15 + 1 : Nat) : Int)) rfl rfl rfl rfl (congrArg (PVal.int .i64) (wrap_up hlt20 hlen_20)) ?_
     refine GX.m rfl ?_
     refine GX.done ?_
     refine WK.nil (QF.normal ?_)
     exact hagain_20 _ (b0.L.length - (i15 + 1)) ⟨[(1, .int .i64 by1), (2, .ptr 0 0), (4, .ptr 1 0), (6, .own 2 7 0 l6.length), (7, .own 3 1 0 (out7 ++ ([(l6.getD i15 default).ID] : List Int)).length), (13, .own 2 7 0 l6.length), (14, .int .i64 (b0.L.length : Int)), (15, .int .i64 ((i15 + 1) : Int))], [(0, .box (TBase.c b0)), (1, .box [.int .i64 0, .int .i64 0, .nils, .bool false]), (2, .row 7 34 (l6.map TLsp.c)), (3, .row 1 22 ((out7 ++ ([(l6.getD i15 default).ID] : List Int)).map c_u64))], 4⟩ (by omega) (Conv.keep [0, 1, 2, 6] [] [1, 2, 4, 6, 7, 13, 14, 15] rfl rfl (viewE_cons rfl rfl (viewE_cons rfl rfl (viewE_cons rfl rfl (viewE_cons rfl rfl (viewE_cons rfl rfl (viewE_cons rfl rfl (viewE_cons rfl rfl (viewE_cons rfl rfl viewE_nil)))))))) rfl rfl) ⟨i15 + 1, l6, (out7 ++ ([(l6.getD i15 default).ID] : List Int)), (by omega), rfl, (by ((try simp only [List.length_append, List.length_cons, List.length_nil, decide_eq_true_eq, decide_eq_false_iff_not] at *) <;> first | omega | (rw [wrap64_of (by omega) (by omega)]; omega))), (by omega), hL_20, rfl⟩
  ·rw [hb23]; try simp only [hb23, bb] at hL_20
   refine WK.condT rfl ?_
   refine WK.regx mixed ?_
   iterate 2 refine GX.m rfl ?_
   refine GX.q (.ptr 4 1) ?_
   refine GX.q (.int .i64 ((l6.getD i15 default).Life)) ?_
   refine GX.m rfl ?_
   refine GX.q (.ptr 4 1) ?_
   refine GX.q (.int .i64 ((l6.getD i15 default).Life)) ?_
   refine GX.q (.int .i64 (min_ by1 ((l6.getD i15 default).Life))) ?_
   refine GX.q (.int .i64 (IntKind.i64.wrap (((l6.getD i15 default).Life) - (min_ by1 ((l6.getD i15 default).Life))))) ?_
   refine GX.pure (v' := .eptr 2 7 i15 0) rfl rfl rfl (core_idxoT (c := TLsp.c) (L := l6) (j := i15) rfl (by omega) (by omega) (by exact Nat.le_refl _)) rfl ?_
   refine GX.pure (v' := .eptr 2 7 i15 1) rfl rfl rfl (core_fldT (c := TLsp.c) (L := l6) rfl (by omega) rfl) rfl ?_
   refine GX.step0 (heap' := [(0, .box (TBase.c b0)), (1, .box [.int .i64 0, .int .i64 0, .nils, .bool false]), (2, .row 7 34 ((l6.set i15 (⟨(l6.getD i15 default).Level, IntKind.i64.wrap (((l6.getD i15 default).Life) - (min_ by1 ((l6.getD i15 default).Life))), (l6.getD i15 default).ID, (l6.getD i15 default).Seq, (l6.getD i15 default).Sum, (l6.getD i15 default).Bits, (l6.getD i15 default).Things⟩ : TLsp)).map TLsp.c)), (3, .row 1 22 (out7.map c_u64)), (4, .box [.int .i64 ((l6.getD i15 default).Level), .int .i64 ((l6.getD i15 default).Life), .int .u64 ((l6.getD i15 default).ID), .int .u32 ((l6.getD i15 default).Seq), .int .i64 ((l6.getD i15 default).Sum), .int .i64 ((l6.getD i15 default).Bits), .ro 2 (((l6.getD i15 default).Things).map TThing.c)])]) (next' := 5) rfl rfl (core_stoT (c := TLsp.c) (L := l6) (x := (l6.getD i15 default)) (x' := (⟨(l6.getD i15 default).Level, IntKind.i64.wrap (((l6.getD i15 default).Life) - (min_ by1 ((l6.getD i15 default).Life))), (l6.getD i15 default).ID, (l6.getD i15 default).Seq, (l6.getD i15 default).Sum, (l6.getD i15 default).Bits, (l6.getD i15 default).Things⟩ : TLsp)) rfl (getD_at (by omega)) rfl rfl rfl rfl rfl) rfl rfl ?_
   refine GX.done ?_
   refine WK.sr mixed ?_
   refine GX.q (.ptr 4 1) ?_
   refine GX.q (.int .i64 ((l6.getD i15 default).Life)) ?_
   refine GX.q (.bool (decide (0 < (l6.getD i15 default).Life))) ?_
   refine GX.m rfl ?_
   rcases bool_two (decide (0 < (l6.getD i15 default).Life)) with hb26 | hb26
   ·rw [hb26]; try simp only [hb26, bb] at hL_20
    iterate 6 refine GX.skip rfl rfl ?_
    refine GX.q (.bool false) ?_
    refine GX.done ?_
    refine WK.condF rfl ?_
    refine WK.skip ?_
    refine WK.nil (QF.normal (hK22 _ ?_))
    refine WK.regx mixed ?_
    refine GX.pure (v' := .int .i64 ((i15 + 1 : Nat) : Int)) rfl rfl rfl rfl (congrArg (PVal.int .i64) (wrap_up hlt20 hlen_20)) ?_
    refine GX.m rfl ?_
    refine GX.done ?_
    refine WK.nil (QF.normal ?_)
    exact hagain_20 _ (b0.L.length - (i15 + 1)) ⟨[(1, .int .i64 by1), (2, .ptr 0 0), (4, .ptr 1 0), (6, .own 2 7 0 (l6.set i15 (⟨(l6.getD i15 default).Level, IntKind.i64.wrap (((l6.getD i15 default).Life) - (min_ by1 ((l6.getD i15 default).Life))), (l6.getD i15 default).ID, (l6.getD i15 default).Seq, (l6.getD i15 default).Sum, (l6.getD i15 default).Bits, (l6.getD i15 default).Things⟩ : TLsp)).length), (7, .own 3 1 0 out7.length), (13, .own 2 7 0 (l6.set i15 (⟨(l6.getD i15 default).Level, IntKind.i64.wrap (((l6.getD i15 default).Life) - (min_ by1 ((l6.getD i15 default).Life))), (l6.getD i15 default).ID, (l6.getD i15 default).Seq, (l6.getD i15 default).Sum, (l6.getD i15 default).Bits, (l6.getD i15 default).Things⟩ : TLsp)).length), (14, .int .i64 (b0.L.length : Int)), (15, .int .i64 ((i15 + 1) : Int))], [(0, .box (TBase.c b0)), (1, .box [.int .i64 0, .int .i64 0, .nils, .bool false]), (2, .row 7 34 ((l6.set i15 (⟨(l6.getD i15 default).Level, IntKind.i64.wrap (((l6.getD i15 default).Life) - (min_ by1 ((l6.getD i15 default).Life))), (l6.getD i15 default).ID, (l6.getD i15 default).Seq, (l6.getD i15 default).Sum, (l6.getD i15 default).Bits, (l6.getD i15 default).Things⟩ : TLsp)).map TLsp.c)), (3, .row 1 22 (out7.map c_u64))], 4⟩ (by omega) (Conv.keep [0, 1, 2, 3] [] [1, 2, 4, 6, 7, 13, 14, 15] rfl rfl (viewE_cons rfl rfl (viewE_cons rfl rfl (viewE_cons rfl rfl (viewE_cons rfl (viewP_own_len rfl (by simp)) (viewE_cons rfl rfl (viewE_cons rfl (viewP_own_len rfl (by simp)) (viewE_cons rfl rfl (viewE_cons rfl rfl viewE_nil)))))))) rfl rfl) ⟨i15 + 1, (l6.set i15 (⟨(l6.getD i15 default).Level, IntKind.i64.wrap (((l6.getD i15 default).Life) - (min_ by1 ((l6.getD i15 default).Life))), (l6.getD i15 default).ID, (l6.getD i15 default).Seq, (l6.getD i15 default).Sum, (l6.getD i15 default).Bits, (l6.getD i15 default).Things⟩ : TLsp)), out7, (by omega), rfl, (by omega), (by (rw [List.length_set]; assumption)), hL_20, rfl⟩
   ·rw [hb26]; try simp only [hb26, bb] at hL_20
    iterate 2 refine GX.m rfl ?_
    refine GX.pure (v' := .eptr 2 7 i15 0) rfl rfl rfl (core_idxoT (c := TLsp.c) (L := (l6.set i15 (⟨(l6.getD i15 default).Level, IntKind.i64.wrap (((l6.getD i15 default).Life) - (min_ by1 ((l6.getD i15 default).Life))), (l6.getD i15 default).ID, (l6.getD i15 default).Seq, (l6.getD i15 default).Sum, (l6.getD i15 default).Bits, (l6.getD i15 default).Things⟩ : TLsp))) (j := i15) rfl (by omega) (by omega) (by simp)) rfl ?_
    refine GX.pure (v' := .eptr 2 7 i15 1) rfl rfl rfl (core_fldT (c := TLsp.c) (L := (l6.set i15 (⟨(l6.getD i15 default).Level, IntKind.i64.wrap (((l6.getD i15 default).Life) - (min_ by1 ((l6.getD i15 default).Life))), (l6.getD i15 default).ID, (l6.getD i15 default).Seq, (l6.getD i15 default).Sum, (l6.getD i15 default).Bits, (l6.getD i15 default).Things⟩ : TLsp))) rfl (by (simp only [List.length_set]; omega)) rfl) rfl ?_
    refine GX.pure (v' := .int .i64 (((l6.set i15 (⟨(l6.getD i15 default).Level, IntKind.i64.wrap (((l6.getD i15 default).Life) - (min_ by1 ((l6.getD i15 default).Life))), (l6.getD i15 default).ID, (l6.getD i15 default).Seq, (l6.getD i15 default).Sum, (l6.getD i15 default).Bits, (l6.getD i15 default).Things⟩ : TLsp)).getD i15 default).Life)) rfl rfl rfl (core_loaT (c := TLsp.c) (L := (l6.set i15 (⟨(l6.getD i15 default).Level, IntKind.i64.wrap (((l6.getD i15 default).Life) - (min_ by1 ((l6.getD i15 default).Life))), (l6.getD i15 default).ID, (l6.getD i15 default).Seq, (l6.getD i15 default).Sum, (l6.getD i15 default).Bits, (l6.getD i15 default).Things⟩ : TLsp))) (x := ((l6.set i15 (⟨(l6.getD i15 default).Level, IntKind.i64.wrap (((l6.getD i15 default).Life) - (min_ by1 ((l6.getD i15 default).Life))), (l6.getD i15 default).ID, (l6.getD i15 default).Seq, (l6.getD i15 default).Sum, (l6.getD i15 default).Bits, (l6.getD i15 default).Things⟩ : TLsp)).getD i15 default)) rfl (getD_at (by (simp only [List.length_set]; omega))) rfl) rfl ?_
    iterate 2 refine GX.q (.bool (decide (((l6.set i15 (⟨(l6.getD i15 default).Level, IntKind.i64.wrap (((l6.getD i15 default).Life) - (min_ by1 ((l6.getD i15 default).Life))), (l6.getD i15 default).ID, (l6.getD i15 default).Seq, (l6.getD i15 default).Sum, (l6.getD i15 default).Bits, (l6.getD i15 default).Things⟩ : TLsp)).getD i15 default).Life = 0))) ?_
    refine GX.done ?_
    rcases bool_two (decide (((l6.set i15 (⟨(l6.getD i15 default).Level, IntKind.i64.wrap (((l6.getD i15 default).Life) - (min_ by1 ((l6.getD i15 default).Life))), (l6.getD i15 default).ID, (l6.getD i15 default).Seq, (l6.getD i15 default).Sum, (l6.getD i15 default).Bits, (l6.getD i15 default).Things⟩ : TLsp)).getD i15 default).Life = 0)) with hb27 | hb27
    ·rw [hb27]; try simp only [hb27, bb] at hL_20
     refine WK.condF rfl ?_
     refine WK.skip ?_
     refine WK.nil (QF.normal (hK22 _ ?_))
     refine WK.regx mixed ?_
     refine GX.pure (v' := .int .i64 ((i15 + 1 : Nat) : Int)) rfl rfl rfl rfl (congrArg (PVal.int .i64) (wrap_up hlt20 hlen_20)) ?_
     refine GX.m rfl ?_
     refine GX.done ?_
     refine WK.nil (QF.normal ?_)
     exact hagain_20 _ (b0.L.length - (i15 + 1)) ⟨[(1, .int .i64 by1), (2, .ptr 0 0), (4, .ptr 1 0), (6, .own 2 7 0 (l6.set i15 (⟨(l6.getD i15 default).Level, IntKind.i64.wrap (((l6.getD i15 default).Life) - (min_ by1 ((l6.getD i15 default).Life))), (l6.getD i15 default).ID, (l6.getD i15 default).Seq, (l6.getD i15 default).Sum, (l6.getD i15 default).Bits, (l6.getD i15 default).Things⟩ : TLsp)).length), (7, .own 3 1 0 out7.length), (13, .own 2 7 0 (l6.set i15 (⟨(l6.getD i15 default).Level, IntKind.i64.wrap (((l6.getD i15 default).Life) - (min_ by1 ((l6.getD i15 default).Life))), (l6.getD i15 default).ID, (l6.getD i15 default).Seq, (l6.getD i15 default).Sum, (l6.getD i15 default).Bits, (l6.getD i15 default).Things⟩ : TLsp)).length), (14, .int .i64 (b0.L.length : Int)), (15, .int .i64 ((i15 + 1) : Int))], [(0, .box (TBase.c b0)), (1, .box [.int .i64 0, .int .i64 0, .nils, .bool false]), (2, .row 7 34 ((l6.set i15 (⟨(l6.getD i15 default).Level, IntKind.i64.wrap (((l6.getD i15 default).Life) - (min_ by1 ((l6.getD i15 default).Life))), (l6.getD i15 default).ID, (l6.getD i15 default).Seq, (l6.getD i15 default).Sum, (l6.getD i15 default).Bits, (l6.getD i15 default).Things⟩ : TLsp)).map TLsp.c)), (3, .row 1 22 (out7.map c_u64))], 4⟩ (by omega) (Conv.keep [0, 1, 2, 3] [] [1, 2, 4, 6, 7, 13, 14, 15] rfl rfl (viewE_cons rfl rfl (viewE_cons rfl rfl (viewE_cons rfl rfl (viewE_cons rfl (viewP_own_len rfl (by simp)) (viewE_cons rfl rfl (viewE_cons rfl (viewP_own_len rfl (by simp)) (viewE_cons rfl rfl (viewE_cons rfl rfl viewE_nil)))))))) rfl rfl) ⟨i15 + 1, (l6.set i15 (⟨(l6.getD i15 default).Level, IntKind.i64.wrap (((l6.getD i15 default).Life) - (min_ by1 ((l6.getD i15 default).Life))), (l6.getD i15 default).ID, (l6.getD i15 default).Seq, (l6.getD i15 default).Sum, (l6.getD i15 default).Bits, (l6.getD i15 default).Things⟩ : TLsp)), out7, (by omega), rfl, (by omega), (by (rw [List.length_set]; assumption)), hL_20, rfl⟩
    ·rw [hb27]; try simp only [hb27, bb] at hL_20
     refine WK.condT rfl ?_
     refine WK.regx mixed ?_
     refine GX.m rfl ?_
     refine GX.q (.ptr 4 2) ?_
     refine GX.q (.int .u64 ((l6.getD i15 default).ID)) ?_
     refine GX.step (v' := .own 5 1 0 (([(l6.getD i15 default).ID] : List Int)).length) (heap' := [(0, .box (TBase.c b0)), (1, .box [.int .i64 0, .int .i64 0, .nils, .bool false]), (2, .row 7 34 ((l6.set i15 (⟨(l6.getD i15 default).Level, IntKind.i64.wrap (((l6.getD i15 default).Life) - (min_ by1 ((l6.getD i15 default).Life))), (l6.getD i15 default).ID, (l6.getD i15 default).Seq, (l6.getD i15 default).Sum, (l6.getD i15 default).Bits, (l6.getD i15 default).Things⟩ : TLsp)).map TLsp.c)), (3, .row 1 22 (out7.map c_u64)), (4, .box [.int .i64 ((l6.getD i15 default).Level), .int .i64 ((l6.getD i15 default).Life), .int .u64 ((l6.getD i15 default).ID), .int .u32 ((l6.getD i15 default).Seq), .int .i64 ((l6.getD i15 default).Sum), .int .i64 ((l6.getD i15 default).Bits), .ro 2 (((l6.getD i15 default).Things).map TThing.c)]), (5, .row 1 22 (([(l6.getD i15 default).ID] : List Int).map c_u64))]) (next' := 6) rfl rfl rfl rfl rfl rfl rfl ?_
     refine GX.appT (c := c_u64) (L := out7) (X := ([(l6.getD i15 default).ID] : List Int)) (heap' := [(0, .box (TBase.c b0)), (1, .box [.int .i64 0, .int .i64 0, .nils, .bool false]), (2, .row 7 34 ((l6.set i15 (⟨(l6.getD i15 default).Level, IntKind.i64.wrap (((l6.getD i15 default).Life) - (min_ by1 ((l6.getD i15 default).Life))), (l6.getD i15 default).ID, (l6.getD i15 default).Seq, (l6.getD i15 default).Sum, (l6.getD i15 default).Bits, (l6.getD i15 default).Things⟩ : TLsp)).map TLsp.c)), (4, .box [.int .i64 ((l6.getD i15 default).Level), .int .i64 ((l6.getD i15 default).Life), .int .u64 ((l6.getD i15 default).ID), .int .u32 ((l6.getD i15 default).Seq), .int .i64 ((l6.getD i15 default).Sum), .int .i64 ((l6.getD i15 default).Bits), .ro 2 (((l6.getD i15 default).Things).map TThing.c)]), (5, .row 1 22 (([(l6.getD i15 default).ID] : List Int).map c_u64)), (6, .row 1 22 ((out7 ++ ([(l6.getD i15 default).ID] : List Int)).map c_u64))]) (next' := 7) rfl rfl rfl rfl (elems_own rfl) (by (have h1 := SmB.nL (by assumption); (try simp only [List.length_append, List.length_cons, List.length_nil, decide_eq_true_eq, decide_eq_false_iff_not] at *); omega)) (by ((try simp only [List.length_append, List.length_cons, List.length_nil, List.length_map, decide_eq_true_eq, decide_eq_false_iff_not] at *) <;> omega)) rfl rfl rfl rfl ?_
     refine GX.m rfl ?_
     refine GX.done ?_
     refine WK.nil (QF.normal (hK22 _ ?_))
     refine WK.regx mixed ?_
     refine GX.pure (v' := .int .i64 ((i15 + 1 : Nat) : Int)) rfl rfl rfl rfl (congrArg (PVal.int .i64) (wrap_up hlt20 hlen_20)) ?_
     refine GX.m rfl ?_
     refine GX.done ?_
     refine WK.nil (QF.normal ?_)
     exact hagain_20 _ (b0.L.length - (i15 + 1)) ⟨[(1, .int .i64 by1), (2, .ptr 0 0), (4, .ptr 1 0), (6, .own 2 7 0 (l6.set i15 (⟨(l6.getD i15 default).Level, IntKind.i64.wrap (((l6.getD i15 default).Life) - (min_ by1 ((l6.getD i15 default).Life))), (l6.getD i15 default).ID, (l6.getD i15 default).Seq, (l6.getD i15 default).Sum, (l6.getD i15 default).Bits, (l6.getD i15 default).Things⟩ : TLsp)).length), (7, .own 3 1 0 (out7 ++ ([(l6.getD i15 default).ID] : List Int)).length), (13, .own 2 7 0 (l6.set i15 (⟨(l6.getD i15 default).Level, IntKind.i64.wrap (((l6.getD i15 default).Life) - (min_ by1 ((l6.getD i15 default).Life))), (l6.getD i15 default).ID, (l6.getD i15 default).Seq, (l6.getD i15 default).Sum, (l6.getD i15 default).Bits, (l6.getD i15 default).Things⟩ : TLsp)).length), (14, .int .i64 (b0.L.length : Int)), (15, .int .i64 ((i15 + 1) : Int))], [(0, .box (TBase.c b0)), (1, .box [.int .i64 0, .int .i64 0, .nils, .bool false]), (2, .row 7 34 ((l6.set i15 (⟨(l6.getD i15 default).Level, IntKind.i64.wrap (((l6.getD i15 default).Life) - (min_ by1 ((l6.getD i15 default).Life))), (l6.getD i15 default).ID, (l6.getD i15 default).Seq, (l6.getD i15 default).Sum, (l6.getD i15 default).Bits, (l6.getD i15 default).Things⟩ : TLsp)).map TLsp.c)), (3, .row 1 22 ((out7 ++ ([(l6.getD i15 default).ID] : List Int)).map c_u64))], 4⟩ (by omega) (Conv.keep [0, 1, 2, 6] [] [1, 2, 4, 6, 7, 13, 14, 15] rfl rfl (viewE_cons rfl rfl (viewE_cons rfl rfl (viewE_cons rfl rfl (viewE_cons rfl (viewP_own_len rfl (by simp)) (viewE_cons rfl rfl (viewE_cons rfl (viewP_own_len rfl (by simp)) (viewE_cons rfl rfl (viewE_cons rfl rfl viewE_nil)))))))) rfl rfl) ⟨i15 + 1, (l6.set i15 (⟨(l6.getD i15 default).Level, IntKind.i64.wrap (((l6.getD i15 default).Life) - (min_ by1 ((l6.getD i15 default).Life))), (l6.getD i15 default).ID, (l6.getD i15 default).Seq, (l6.getD i15 default).Sum, (l6.getD i15 default).Bits, (l6.getD i15 default).Things⟩ : TLsp)), (out7 ++ ([(l6.getD i15 default).ID] : List Int)), (by omega), rfl, (by ((try simp only [List.length_append, List.length_cons, List.length_nil, decide_eq_true_eq, decide_eq_false_iff_not] at *) <;> first | omega | (rw [wrap64_of (by omega) (by omega)]; omega))), (by (rw [List.length_set]; assumption)), hL_20, rfl⟩

theorem f27_ok (b0 : TBase) (by1 : Int) (hp0 : SmB b0) (R : TBase × (List Int)) (hR : F27_crossroadsref23_Tick b0 by1 = R) : FnOk Try.prog 27 [.agg (TBase.c b0), .int .i64 by1] [] 0 (.tup [.agg (TBase.c R.1), .ro 1 (R.2.map c_u64)]) [] 0 := by
 refine FnOk.wk i27 rfl rfl ?_
 unfold F27_crossroadsref23_Tick at hR
 change WK _ _ _ [ac27] _ ⟨[(0, .agg (TBase.c b0)), (1, .int .i64 by1)], [], 0⟩
 unfold ac27
 refine WK.sr mixed ?_
 refine GX.step (v' := .ptr 0 0) (heap' := [(0, .box (TBase.c b0))]) (next' := 1) rfl rfl rfl rfl rfl rfl rfl ?_
 refine GX.step (v' := .ptr 1 0) (heap' := [(0, .box (TBase.c b0)), (1, .box [.int .i64 0, .int .i64 0, .nils, .bool false])]) (next' := 2) rfl rfl rfl rfl rfl rfl rfl ?_
 refine GX.m rfl ?_
 refine GX.done ?_
 refine WK.sr mixed ?_
 refine GX.step (v' := .own 2 7 0 (([] : List TLsp)).length) (heap' := [(0, .box (TBase.c b0)), (1, .box [.int .i64 0, .int .i64 0, .nils, .bool false]), (2, .row 7 78 (([] : List TLsp).map TLsp.c))]) (next' := 3) rfl rfl rfl rfl rfl rfl rfl ?_
 refine GX.step (v' := .own 3 1 0 (([] : List Int)).length) (heap' := [(0, .box (TBase.c b0)), (1, .box [.int .i64 0, .int .i64 0, .nils, .bool false]), (2, .row 7 78 (([] : List TLsp).map TLsp.c)), (3, .row 1 22 (([] : List Int).map c_u64))]) (next' := 4) rfl rfl rfl rfl rfl rfl rfl ?_
 iterate 2 refine GX.m rfl ?_
 refine GX.done ?_
 refine WK.seq ?_
 refine WK.sr mixed ?_
 refine GX.m rfl ?_
 refine GX.done ?_
 refine WK.lenb (id := 0) (j := 2) rfl rfl (by simp) (fun hlen_12 => ?_)
 rw [List.length_map] at hlen_12
 generalize hZ_12 : F27_crossroadsref23_Tick_l1 by1 ([] : List TLsp) ([] : List Int) b0.L = Z_12 at hR
 refine WK.forK (fun k s => ∃ (i8 : Nat) (out6 : List TLsp) (ids7 : List Int), i8 ≤ b0.L.length ∧ k = b0.L.length - i8 ∧ out6.length ≤ i8 + 0 ∧ ids7.length ≤ i8 + 0 ∧ F27_crossroadsref23_Tick_l1 by1 out6 ids7 (b0.L.drop i8) = Z_12 ∧ s = ⟨[(1, .int .i64 by1), (2, .ptr 0 0), (4, .ptr 1 0), (6, .own 2 7 0 out6.length), (7, .own 3 1 0 ids7.length), (8, .int .i64 (i8 : Int))], [(0, .box (TBase.c b0)), (1, .box [.int .i64 0, .int .i64 0, .nils, .bool false]), (2, .row 7 78 (out6.map TLsp.c)), (3, .row 1 22 (ids7.map c_u64))], 4⟩) b0.L.length ⟨⟨[(1, .int .i64 by1), (2, .ptr 0 0), (4, .ptr 1 0), (6, .own 2 7 0 ([] : List TLsp).length), (7, .own 3 1 0 ([] : List Int).length), (8, .int .i64 (0 : Int))], [(0, .box (TBase.c b0)), (1, .box [.int .i64 0, .int .i64 0, .nils, .bool false]), (2, .row 7 78 (([] : List TLsp).map TLsp.c)), (3, .row 1 22 (([] : List Int).map c_u64))], 4⟩, Conv.keep [0, 1, 2, 3] [] [1, 2, 4, 6, 7, 8] rfl rfl (viewE_cons rfl rfl (viewE_cons rfl rfl (viewE_cons rfl rfl (viewE_cons rfl rfl (viewE_cons rfl rfl (viewE_cons rfl rfl viewE_nil)))))) rfl rfl, 0, ([] : List TLsp), ([] : List Int), (by omega), rfl, (by ((try simp only [List.length_append, List.length_cons, List.length_nil, decide_eq_true_eq, decide_eq_false_iff_not] at *) <;> first | omega | (rw [wrap64_of (by omega) (by omega)]; omega))), (by ((try simp only [List.length_append, List.length_cons, List.length_nil, decide_eq_true_eq, decide_eq_false_iff_not] at *) <;> first | omega | (rw [wrap64_of (by omega) (by omega)]; omega))), hZ_12, rfl⟩ ?_
 rintro _ _ ⟨i8, out6, ids7, hi_12, rfl, hinv12_out6, hinv12_ids7, hL_12, rfl⟩ again_12 out_12 Q_12 hagain_12 hout_12 hQ_12
 refine WK.seq ?_
 refine WK.sr mixed ?_
 refine GX.m rfl ?_
 refine GX.q (.ptr 0 2) ?_
 refine GX.q (.ro 7 (b0.L.map TLsp.c)) ?_
 refine GX.pure (v' := .int .i64 (b0.L.length : Int)) rfl rfl rfl rfl (len_map _ _) ?_
 refine GX.q (.bool (decide ((i8 : Int) < (b0.L.length : Int)))) ?_
 refine GX.done ?_
 rcases bool_two (decide ((i8 : Int) < (b0.L.length : Int))) with hb13 | hb13
 ·rw [hb13]
  rw [drop_end hb13, F27_crossroadsref23_Tick_l1] at hL_12
  refine WK.condF rfl ?_
  refine WK.exit ?_
  refine QF.exit (hout_12 _ ?_)
  subst hL_12
  try dsimp only [cond_true, cond_false] at hR
  refine WK.sr mixed ?_
  refine GX.m rfl ?_
  refine GX.q (.ptr 0 2) ?_
  refine GX.step0 (heap' := [(0, .box [.int .i64 b0.Level, .int .i64 b0.Max, .own 2 7 0 out6.length, .bool b0.Over]), (1, .box [.int .i64 0, .int .i64 0, .nils, .bool false]), (2, .row 7 78 (out6.map TLsp.c)), (3, .row 1 22 (ids7.map c_u64))]) (next' := 4) rfl rfl rfl rfl rfl ?_
  refine GX.done ?_
  refine WK.sr mixed ?_
  refine GX.q (.agg [.int .i64 b0.Level, .int .i64 b0.Max, .own 2 7 0 out6.length, .bool b0.Over]) ?_
  refine GX.m rfl ?_
  refine GX.step0 (heap' := [(0, .box [.int .i64 b0.Level, .int .i64 b0.Max, .own 2 7 0 out6.length, .bool b0.Over]), (1, .box [.int .i64 b0.Level, .int .i64 b0.Max, .own 2 7 0 out6.length, .bool b0.Over]), (2, .row 7 78 (out6.map TLsp.c)), (3, .row 1 22 (ids7.map c_u64))]) (next' := 4) rfl rfl rfl rfl rfl ?_
  refine GX.m rfl ?_
  refine GX.done ?_
  refine WK.ret ?_
  subst hR
  exact RetQ.fr [2, 3] (.inr rfl) rfl rfl (viewGo_cons (viewP_agg (viewGo_cons rfl (viewGo_cons rfl (viewGo_cons (view_rowT rfl rfl) (viewGo_cons rfl viewGo_nil))))) (viewGo_cons (view_rowT rfl rfl) viewGo_nil)) rfl
 ·rw [hb13]
  obtain ⟨x8, hx12, hd12, hlt12⟩ := drop_more hb13
  rw [hd12, F27_crossroadsref23_Tick_l1] at hL_12
  refine WK.condT rfl ?_
  refine WK.skip ?_
  refine WK.seq ?_
  refine WK.blockK (fun _ hK14 => ?_)
  refine WK.sr mixed ?_
  refine GX.q (.ptr 0 2) ?_
  refine GX.q (.ro 7 (b0.L.map TLsp.c)) ?_
  refine GX.m rfl ?_
  refine GX.idxT (c := TLsp.c) (x := x8) rfl rfl rfl (Int.natCast_nonneg _) hx12 ?_
  refine GX.q (.agg (TLsp.c x8)) ?_
  refine GX.step (v' := .ptr 4 0) (heap' := [(0, .box (TBase.c b0)), (1, .box [.int .i64 0, .int .i64 0, .nils, .bool false]), (2, .row 7 78 (out6.map TLsp.c)), (3, .row 1 22 (ids7.map c_u64)), (4, .box [.int .i64 0, .int .i64 0, .int .u64 0, .int .u32 0, .int .i64 0, .int .i64 0, .nils])]) (next' := 5) rfl rfl rfl rfl rfl rfl rfl ?_
  refine GX.step0 (heap' := [(0, .box (TBase.c b0)), (1, .box [.int .i64 0, .int .i64 0, .nils, .bool false]), (2, .row 7 78 (out6.map TLsp.c)), (3, .row 1 22 (ids7.map c_u64)), (4, .box (TLsp.c x8))]) (next' := 5) rfl rfl rfl rfl rfl ?_
  refine GX.done ?_
  refine WK.seq ?_
  refine WK.sr mixed ?_
  refine GX.m rfl ?_
  refine GX.q (.bool (decide (0 < by1))) ?_
  refine GX.done ?_
  rcases bool_two (decide (0 < by1)) with hb15 | hb15
  ·rw [hb15]; try simp only [hb15, bb] at hL_12
   refine WK.condF rfl ?_
   refine WK.skip ?_
   refine WK.seq ?_
   refine WK.sr mixed ?_
   refine GX.q (.ptr 4 1) ?_
   refine GX.q (.int .i64 x8.Life) ?_
   refine GX.q (.bool (decide (x8.Life = 0))) ?_
   refine GX.m rfl ?_
   rcases bool_two (decide (x8.Life = 0)) with hb16 | hb16
   ·rw [hb16]; try simp only [hb16, bb] at hL_12
    iterate 7 refine GX.skip rfl rfl ?_
    refine GX.q (.bool false) ?_
    refine GX.done ?_
    refine WK.condF rfl ?_
    refine WK.skip ?_
    refine WK.regx mixed ?_
    refine GX.m rfl ?_
    refine GX.q (.agg (TLsp.c x8)) ?_
    refine GX.step (v' := .own 5 7 0 (([x8] : List TLsp)).length) (heap' := [(0, .box (TBase.c b0)), (1, .box [.int .i64 0, .int .i64 0, .nils, .bool false]), (2, .row 7 78 (out6.map TLsp.c)), (3, .row 1 22 (ids7.map c_u64)), (4, .box (TLsp.c x8)), (5, .row 7 78 (([x8] : List TLsp).map TLsp.c))]) (next' := 6) rfl rfl rfl rfl rfl rfl rfl ?_
    refine GX.appT (c := TLsp.c) (L := out6) (X := ([x8] : List TLsp)) (heap' := [(0, .box (TBase.c b0)), (1, .box [.int .i64 0, .int .i64 0, .nils, .bool false]), (3, .row 1 22 (ids7.map c_u64)), (4, .box (TLsp.c x8)), (5, .row 7 78 (([x8] : List TLsp).map TLsp.c)), (6, .row 7 78 ((out6 ++ ([x8] : List TLsp)).map TLsp.c))]) (next' := 7) rfl rfl rfl rfl (elems_own rfl) (by (have h1 := SmB.nL (by assumption); (try simp only [List.length_append, List.length_cons, List.length_nil, decide_eq_true_eq, decide_eq_false_iff_not] at *); omega)) (by ((try simp only [List.length_append, List.length_cons, List.length_nil, List.length_map, decide_eq_true_eq, decide_eq_false_iff_not] at *) <;> omega)) rfl rfl rfl rfl ?_
    refine GX.m rfl ?_
    refine GX.done ?_
    refine WK.nil (QF.normal (hK14 _ ?_))
    refine WK.regx mixed ?_
    refine GX.m rfl ?_
    refine GX.pure (v' := .int .i64 ((i8 + 1 : Nat) : Int)) rfl rfl rfl rfl (congrArg (PVal.int .i64) (wrap_up hlt12 hlen_12)) ?_
    refine GX.m rfl ?_
    refine GX.done ?_
    refine WK.nil (QF.normal ?_)
    exact hagain_12 _ (b0.L.length - (i8 + 1)) ⟨[(1, .int .i64 by1), (2, .ptr 0 0), (4, .ptr 1 0), (6, .own 2 7 0 (out6 ++ ([x8] : List TLsp)).length), (7, .own 3 1 0 ids7.length), (8, .int .i64 ((i8 + 1) : Int))], [(0, .box (TBase.c b0)), (1, .box [.int .i64 0, .int .i64 0, .nils, .bool false]), (2, .row 7 78 ((out6 ++ ([x8] : List TLsp)).map TLsp.c)), (3, .row 1 22 (ids7.map c_u64))], 4⟩ (by omega) (Conv.keep [0, 1, 6, 3] [] [1, 2, 4, 6, 7, 8] rfl rfl (viewE_cons rfl rfl (viewE_cons rfl rfl (viewE_cons rfl rfl (viewE_cons rfl rfl (viewE_cons rfl rfl (viewE_cons rfl rfl viewE_nil)))))) rfl rfl) ⟨i8 + 1, (out6 ++ ([x8] : List TLsp)), ids7, (by omega), rfl, (by ((try simp only [List.length_append, List.length_cons, List.length_nil, decide_eq_true_eq, decide_eq_false_iff_not] at *) <;> first | omega | (rw [wrap64_of (by omega) (by omega)]; omega))), (by omega), hL_12, rfl⟩
   ·rw [hb16]; try simp only [hb16, bb] at hL_12
    refine GX.q (.ptr 0 2) ?_
    refine GX.q (.ro 7 (b0.L.map TLsp.c)) ?_
    refine GX.m rfl ?_
    refine GX.idxT (c := TLsp.c) (x := x8) rfl rfl rfl (Int.natCast_nonneg _) hx12 ?_
    refine GX.q (.rptr [.int .i64 x8.Life, .int .u64 x8.ID, .int .u32 x8.Seq, .int .i64 x8.Sum, .int .i64 x8.Bits, .ro 2 (x8.Things.map TThing.c)]) ?_
    refine GX.q (.int .i64 x8.Life) ?_
    iterate 2 refine GX.q (.bool (decide (0 < x8.Life))) ?_
    refine GX.done ?_
    rcases bool_two (decide (0 < x8.Life)) with hb17 | hb17
    ·rw [hb17]; try simp only [hb17, bb] at hL_12
     refine WK.condF rfl ?_
     refine WK.skip ?_
     refine WK.regx mixed ?_
     refine GX.m rfl ?_
     refine GX.q (.agg (TLsp.c x8)) ?_
     refine GX.step (v' := .own 5 7 0 (([x8] : List TLsp)).length) (heap' := [(0, .box (TBase.c b0)), (1, .box [.int .i64 0, .int .i64 0, .nils, .bool false]), (2, .row 7 78 (out6.map TLsp.c)), (3, .row 1 22 (ids7.map c_u64)), (4, .box (TLsp.c x8)), (5, .row 7 78 (([x8] : List TLsp).map TLsp.c))]) (next' := 6) rfl rfl rfl rfl rfl rfl rfl ?_
     refine GX.appT (c := TLsp.c) (L := out6) (X := ([x8] : List TLsp)) (heap' := [(0, .box (TBase.c b0)), (1, .box [.int .i64 0, .int .i64 0, .nils, .bool false]), (3, .row 1 22 (ids7.map c_u64)), (4, .box (TLsp.c x8)), (5, .row 7 78 (([x8] : List TLsp).map TLsp.c)), (6, .row 7 78 ((out6 ++ ([x8] : List TLsp)).map TLsp.c))]) (next' := 7) rfl rfl rfl rfl (elems_own rfl) (by (have h1 := SmB.nL (by assumption); (try simp only [List.length_append, List.length_cons, List.length_nil, decide_eq_true_eq, decide_eq_false_iff_not] at *); omega)) (by ((try simp only [List.length_append, List.length_cons, List.length_nil, List.length_map, decide_eq_true_eq, decide_eq_false_iff_not] at *) <;> omega)) rfl rfl rfl rfl ?_
     refine GX.m rfl ?_
     refine GX.done ?_
     refine WK.nil (QF.normal (hK14 _ ?_))
     refine WK.regx mixed ?_
     refine GX.m rfl ?_
     refine GX.pure (v' := .int .i64 ((i8 + 1 : Nat) : Int)) rfl rfl rfl rfl (congrArg (PVal.int .i64) (wrap_up hlt12 hlen_12)) ?_
     refine GX.m rfl ?_
     refine GX.done ?_
     refine WK.nil (QF.normal ?_)
     exact hagain_12 _ (b0.L.length - (i8 + 1)) ⟨[(1, .int .i64 by1), (2, .ptr 0 0), (4, .ptr 1 0), (6, .own 2 7 0 (out6 ++ ([x8] : List TLsp)).length), (7, .own 3 1 0 ids7.length), (8, .int .i64 ((i8 + 1) : Int))], [(0, .box (TBase.c b0)), (1, .box [.int .i64 0, .int .i64 0, .nils, .bool false]), (2, .row 7 78 ((out6 ++ ([x8] : List TLsp)).map TLsp.c)), (3, .row 1 22 (ids7.map c_u64))], 4⟩ (by omega) (Conv.keep [0, 1, 6, 3] [] [1, 2, 4, 6, 7, 8] rfl rfl (viewE_cons rfl rfl (viewE_cons rfl rfl (viewE_cons rfl rfl (viewE_cons rfl rfl (viewE_cons rfl rfl (viewE_cons rfl rfl viewE_nil)))))) rfl rfl) ⟨i8 + 1, (out6 ++ ([x8] : List TLsp)), ids7, (by omega), rfl, (by ((try simp only [List.length_append, List.length_cons, List.length_nil, decide_eq_true_eq, decide_eq_false_iff_not] at *) <;> first | omega | (rw [wrap64_of (by omega) (by omega)]; omega))), (by omega), hL_12, rfl⟩
    ·rw [hb17]; try simp only [hb17, bb] at hL_12
     refine WK.condT rfl ?_
     refine WK.regx mixed ?_
     refine GX.m rfl ?_
     refine GX.q (.ptr 4 2) ?_
     refine GX.q (.int .u64 x8.ID) ?_
     refine GX.step (v' := .own 5 1 0 (([x8.ID] : List Int)).length) (heap' := [(0, .box (TBase.c b0)), (1, .box [.int .i64 0, .int .i64 0, .nils, .bool false]), (2, .row 7 78 (out6.map TLsp.c)), (3, .row 1 22 (ids7.map c_u64)), (4, .box (TLsp.c x8)), (5, .row 1 22 (([x8.ID] : List Int).map c_u64))]) (next' := 6) rfl rfl rfl rfl rfl rfl rfl ?_
     refine GX.appT (c := c_u64) (L := ids7) (X := ([x8.ID] : List Int)) (heap' := [(0, .box (TBase.c b0)), (1, .box [.int .i64 0, .int .i64 0, .nils, .bool false]), (2, .row 7 78 (out6.map TLsp.c)), (4, .box (TLsp.c x8)), (5, .row 1 22 (([x8.ID] : List Int).map c_u64)), (6, .row 1 22 ((ids7 ++ ([x8.ID] : List Int)).map c_u64))]) (next' := 7) rfl rfl rfl rfl (elems_own rfl) (by ((try simp only [List.length_append, List.length_cons, List.length_nil, List.length_map, decide_eq_true_eq, decide_eq_false_iff_not] at *) <;> omega)) (by ((try simp only [List.length_append, List.length_cons, List.length_nil, List.length_map, decide_eq_true_eq, decide_eq_false_iff_not] at *) <;> omega)) rfl rfl rfl rfl ?_
     refine GX.m rfl ?_
     refine GX.done ?_
     refine WK.regx mixed ?_
     refine GX.m rfl ?_
     refine GX.q (.agg (TLsp.c x8)) ?_
     refine GX.step (v' := .own 7 7 0 (([x8] : List TLsp)).length) (heap' := [(0, .box (TBase.c b0)), (1, .box [.int .i64 0, .int .i64 0, .nils, .bool false]), (2, .row 7 78 (out6.map TLsp.c)), (4, .box (TLsp.c x8)), (5, .row 1 22 (([x8.ID] : List Int).map c_u64)), (6, .row 1 22 ((ids7 ++ ([x8.ID] : List Int)).map c_u64)), (7, .row 7 78 (([x8] : List TLsp).map TLsp.c))]) (next' := 8) rfl rfl rfl rfl rfl rfl rfl ?_
     refine GX.appT (c := TLsp.c) (L := out6) (X := ([x8] : List TLsp)) (heap' := [(0, .box (TBase.c b0)), (1, .box [.int .i64 0, .int .i64 0, .nils, .bool false]), (4, .box (TLsp.c x8)), (5, .row 1 22 (([x8.ID] : List Int).map c_u64)), (6, .row 1 22 ((ids7 ++ ([x8.ID] : List Int)).map c_u64)), (7, .row 7 78 (([x8] : List TLsp).map TLsp.c)), (8, .row 7 78 ((out6 ++ ([x8] : List TLsp)).map TLsp.c))]) (next' := 9) rfl rfl rfl rfl (elems_own rfl) (by ((try simp only [List.length_append, List.length_cons, List.length_nil, List.length_map, decide_eq_true_eq, decide_eq_false_iff_not] at *) <;> omega)) (by ((try simp only [List.length_append, List.length_cons, List.length_nil, List.length_map, decide_eq_true_eq, decide_eq_false_iff_not] at *) <;> omega)) rfl rfl rfl rfl ?_
     refine GX.m rfl ?_
     refine GX.done ?_
     refine WK.nil (QF.normal (hK14 _ ?_))
     refine WK.regx mixed ?_
     refine GX.m rfl ?_
     refine GX.pure (v' := .int .i64 ((i8 + 1 : Nat) : Int)) rfl rfl rfl rfl (congrArg (PVal.int .i64) (wrap_up hlt12 hlen_12)) ?_
     refine GX.m rfl ?_
     refine GX.done ?_
     refine WK.nil (QF.normal ?_)
     exact hagain_12 _ (b0.L.length - (i8 + 1)) ⟨[(1, .int .i64 by1), (2, .ptr 0 0), (4, .ptr 1 0), (6, .own 2 7 0 (out6 ++ ([x8] : List TLsp)).length), (7, .own 3 1 0 (ids7 ++ ([x8.ID] : List Int)).length), (8, .int .i64 ((i8 + 1) : Int))], [(0, .box (TBase.c b0)), (1, .box [.int .i64 0, .int .i64 0, .nils, .bool false]), (2, .row 7 78 ((out6 ++ ([x8] : List TLsp)).map TLsp.c)), (3, .row 1 22 ((ids7 ++ ([x8.ID] : List Int)).map c_u64))], 4⟩ (by omega) (Conv.keep [0, 1, 8, 6] [] [1, 2, 4, 6, 7, 8] rfl rfl (viewE_cons rfl rfl (viewE_cons rfl rfl (viewE_cons rfl rfl (viewE_cons rfl rfl (viewE_cons rfl rfl (viewE_cons rfl rfl viewE_nil)))))) rfl rfl) ⟨i8 + 1, (out6 ++ ([x8] : List TLsp)), (ids7 ++ ([x8.ID] : List Int)), (by omega), rfl, (by ((try simp only [List.length_append, List.length_cons, List.length_nil, decide_eq_true_eq, decide_eq_false_iff_not] at *) <;> first | omega | (rw [wrap64_of (by omega) (by omega)]; omega))), (by ((try simp only [List.length_append, List.length_cons, List.length_nil, decide_eq_true_eq, decide_eq_false_iff_not] at *) <;> first | omega | (rw [wrap64_of (by omega) (by omega)]; omega))), hL_12, rfl⟩
  ·rw [hb15]; try simp only [hb15, bb] at hL_12
   refine WK.condT rfl ?_
   refine WK.regx mixed ?_
   refine GX.q (.ptr 4 1) ?_
   refine GX.q (.int .i64 x8.Life) ?_
   refine GX.m rfl ?_
   refine GX.q (.int .i64 (min_ by1 65535)) ?_
   refine GX.q (.int .i64 (IntKind.i64.wrap (x8.Life - (min_ by1 65535)))) ?_
   refine GX.q (.int .i64 (max_ 0 (IntKind.i64.wrap (x8.Life - (min_ by1 65535))))) ?_
   refine GX.q (.ptr 4 1) ?_
   refine GX.step0 (heap' := [(0, .box (TBase.c b0)), (1, .box [.int .i64 0, .int .i64 0, .nils, .bool false]), (2, .row 7 78 (out6.map TLsp.c)), (3, .row 1 22 (ids7.map c_u64)), (4, .box [.int .i64 x8.Level, .int .i64 (max_ 0 (IntKind.i64.wrap (x8.Life - (min_ by1 65535)))), .int .u64 x8.ID, .int .u32 x8.Seq, .int .i64 x8.Sum, .int .i64 x8.Bits, .ro 2 (x8.Things.map TThing.c)])]) (next' := 5) rfl rfl rfl rfl rfl ?_
   refine GX.done ?_
   refine WK.seq ?_
   refine WK.sr mixed ?_
   refine GX.q (.ptr 4 1) ?_
   refine GX.q (.int .i64 (max_ 0 (IntKind.i64.wrap (x8.Life - (min_ by1 65535))))) ?_
   refine GX.q (.bool (decide (max_ 0 (IntKind.i64.wrap (x8.Life - (min_ by1 65535))) = 0))) ?_
   refine GX.m rfl ?_
   rcases bool_two (decide (max_ 0 (IntKind.i64.wrap (x8.Life - (min_ by1 65535))) = 0)) with hb18 | hb18
   ·rw [hb18]; try simp only [hb18, bb] at hL_12
    iterate 7 refine GX.skip rfl rfl ?_
    refine GX.q (.bool false) ?_
    refine GX.done ?_
    refine WK.condF rfl ?_
    refine WK.skip ?_
    refine WK.regx mixed ?_
    refine GX.m rfl ?_
    refine GX.q (.agg [.int .i64 x8.Level, .int .i64 (max_ 0 (IntKind.i64.wrap (x8.Life - (min_ by1 65535)))), .int .u64 x8.ID, .int .u32 x8.Seq, .int .i64 x8.Sum, .int .i64 x8.Bits, .ro 2 (x8.Things.map TThing.c)]) ?_
    refine GX.step (v' := .own 5 7 0 (([(⟨x8.Level, max_ 0 (IntKind.i64.wrap (x8.Life - (min_ by1 65535))), x8.ID, x8.Seq, x8.Sum, x8.Bits, x8.Things⟩ : TLsp)] : List TLsp)).length) (heap' := [(0, .box (TBase.c b0)), (1, .box [.int .i64 0, .int .i64 0, .nils, .bool false]), (2, .row 7 78 (out6.map TLsp.c)), (3, .row 1 22 (ids7.map c_u64)), (4, .box [.int .i64 x8.Level, .int .i64 (max_ 0 (IntKind.i64.wrap (x8.Life - (min_ by1 65535)))), .int .u64 x8.ID, .int .u32 x8.Seq, .int .i64 x8.Sum, .int .i64 x8.Bits, .ro 2 (x8.Things.map TThing.c)]), (5, .row 7 78 (([(⟨x8.Level, max_ 0 (IntKind.i64.wrap (x8.Life - (min_ by1 65535))), x8.ID, x8.Seq, x8.Sum, x8.Bits, x8.Things⟩ : TLsp)] : List TLsp).map TLsp.c))]) (next' := 6) rfl rfl rfl rfl rfl rfl rfl ?_
    refine GX.appT (c := TLsp.c) (L := out6) (X := ([(⟨x8.Level, max_ 0 (IntKind.i64.wrap (x8.Life - (min_ by1 65535))), x8.ID, x8.Seq, x8.Sum, x8.Bits, x8.Things⟩ : TLsp)] : List TLsp)) (heap' := [(0, .box (TBase.c b0)), (1, .box [.int .i64 0, .int .i64 0, .nils, .bool false]), (3, .row 1 22 (ids7.map c_u64)), (4, .box [.int .i64 x8.Level, .int .i64 (max_ 0 (IntKind.i64.wrap (x8.Life - (min_ by1 65535)))), .int .u64 x8.ID, .int .u32 x8.Seq, .int .i64 x8.Sum, .int .i64 x8.Bits, .ro 2 (x8.Things.map TThing.c)]), (5, .row 7 78 (([(⟨x8.Level, max_ 0 (IntKind.i64.wrap (x8.Life - (min_ by1 65535))), x8.ID, x8.Seq, x8.Sum, x8.Bits, x8.Things⟩ : TLsp)] : List TLsp).map TLsp.c)), (6, .row 7 78 ((out6 ++ ([(⟨x8.Level, max_ 0 (IntKind.i64.wrap (x8.Life - (min_ by1 65535))), x8.ID, x8.Seq, x8.Sum, x8.Bits, x8.Things⟩ : TLsp)] : List TLsp)).map TLsp.c))]) (next' := 7) rfl rfl rfl rfl (elems_own rfl) (by (have h1 := SmB.nL (by assumption); (try simp only [List.length_append, List.length_cons, List.length_nil, decide_eq_true_eq, decide_eq_false_iff_not] at *); omega)) (by ((try simp only [List.length_append, List.length_cons, List.length_nil, List.length_map, decide_eq_true_eq, decide_eq_false_iff_not] at *) <;> omega)) rfl rfl rfl rfl ?_
    refine GX.m rfl ?_
    refine GX.done ?_
    refine WK.nil (QF.normal (hK14 _ ?_))
    refine WK.regx mixed ?_
    refine GX.m rfl ?_
    refine GX.pure (v' := .int .i64 ((i8 + 1 : Nat) : Int)) rfl rfl rfl rfl (congrArg (PVal.int .i64) (wrap_up hlt12 hlen_12)) ?_
    refine GX.m rfl ?_
    refine GX.done ?_
    refine WK.nil (QF.normal ?_)
    exact hagain_12 _ (b0.L.length - (i8 + 1)) ⟨[(1, .int .i64 by1), (2, .ptr 0 0), (4, .ptr 1 0), (6, .own 2 7 0 (out6 ++ ([(⟨x8.Level, max_ 0 (IntKind.i64.wrap (x8.Life - (min_ by1 65535))), x8.ID, x8.Seq, x8.Sum, x8.Bits, x8.Things⟩ : TLsp)] : List TLsp)).length), (7, .own 3 1 0 ids7.length), (8, .int .i64 ((i8 + 1) : Int))], [(0, .box (TBase.c b0)), (1, .box [.int .i64 0, .int .i64 0, .nils, .bool false]), (2, .row 7 78 ((out6 ++ ([(⟨x8.Level, max_ 0 (IntKind.i64.wrap (x8.Life - (min_ by1 65535))), x8.ID, x8.Seq, x8.Sum, x8.Bits, x8.Things⟩ : TLsp)] : List TLsp)).map TLsp.c)), (3, .row 1 22 (ids7.map c_u64))], 4⟩ (by omega) (Conv.keep [0, 1, 6, 3] [] [1, 2, 4, 6, 7, 8] rfl rfl (viewE_cons rfl rfl (viewE_cons rfl rfl (viewE_cons rfl rfl (viewE_cons rfl rfl (viewE_cons rfl rfl (viewE_cons rfl rfl viewE_nil)))))) rfl rfl) ⟨i8 + 1, (out6 ++ ([(⟨x8.Level, max_ 0 (IntKind.i64.wrap (x8.Life - (min_ by1 65535))), x8.ID, x8.Seq, x8.Sum, x8.Bits, x8.Things⟩ : TLsp)] : List TLsp)), ids7, (by omega), rfl, (by ((try simp only [List.length_append, List.length_cons, List.length_nil, decide_eq_true_eq, decide_eq_false_iff_not] at *) <;> first | omega | (rw [wrap64_of (by omega) (by omega)]; omega))), (by omega), hL_12, rfl⟩
   ·rw [hb18]; try simp only [hb18, bb] at hL_12
    refine GX.q (.ptr 0 2) ?_
    refine GX.q (.ro 7 (b0.L.map TLsp.c)) ?_
    refine GX.m rfl ?_
    refine GX.idxT (c := TLsp.c) (x := x8) rfl rfl rfl (Int.natCast_nonneg _) hx12 ?_
    refine GX.q (.rptr [.int .i64 x8.Life, .int .u64 x8.ID, .int .u32 x8.Seq, .int .i64 x8.Sum, .int .i64 x8.Bits, .ro 2 (x8.Things.map TThing.c)]) ?_
    refine GX.q (.int .i64 x8.Life) ?_
    iterate 2 refine GX.q (.bool (decide (0 < x8.Life))) ?_
    refine GX.done ?_
    rcases bool_two (decide (0 < x8.Life)) with hb19 | hb19
    ·rw [hb19]; try simp only [hb19, bb] at hL_12
     refine WK.condF rfl ?_
     refine WK.skip ?_
     refine WK.regx mixed ?_
     refine GX.m rfl ?_
     refine GX.q (.agg [.int .i64 x8.Level, .int .i64 (max_ 0 (IntKind.i64.wrap (x8.Life - (min_ by1 65535)))), .int .u64 x8.ID, .int .u32 x8.Seq, .int .i64 x8.Sum, .int .i64 x8.Bits, .ro 2 (x8.Things.map TThing.c)]) ?_
     refine GX.step (v' := .own 5 7 0 (([(⟨x8.Level, max_ 0 (IntKind.i64.wrap (x8.Life - (min_ by1 65535))), x8.ID, x8.Seq, x8.Sum, x8.Bits, x8.Things⟩ : TLsp)] : List TLsp)).length) (heap' := [(0, .box (TBase.c b0)), (1, .box [.int .i64 0, .int .i64 0, .nils, .bool false]), (2, .row 7 78 (out6.map TLsp.c)), (3, .row 1 22 (ids7.map c_u64)), (4, .box [.int .i64 x8.Level, .int .i64 (max_ 0 (IntKind.i64.wrap (x8.Life - (min_ by1 65535)))), .int .u64 x8.ID, .int .u32 x8.Seq, .int .i64 x8.Sum, .int .i64 x8.Bits, .ro 2 (x8.Things.map TThing.c)]), (5, .row 7 78 (([(⟨x8.Level, max_ 0 (IntKind.i64.wrap (x8.Life - (min_ by1 65535))), x8.ID, x8.Seq, x8.Sum, x8.Bits, x8.Things⟩ : TLsp)] : List TLsp).map TLsp.c))]) (next' := 6) rfl rfl rfl rfl rfl rfl rfl ?_
     refine GX.appT (c := TLsp.c) (L := out6) (X := ([(⟨x8.Level, max_ 0 (IntKind.i64.wrap (x8.Life - (min_ by1 65535))), x8.ID, x8.Seq, x8.Sum, x8.Bits, x8.Things⟩ : TLsp)] : List TLsp)) (heap' := [(0, .box (TBase.c b0)), (1, .box [.int .i64 0, .int .i64 0, .nils, .bool false]), (3, .row 1 22 (ids7.map c_u64)), (4, .box [.int .i64 x8.Level, .int .i64 (max_ 0 (IntKind.i64.wrap (x8.Life - (min_ by1 65535)))), .int .u64 x8.ID, .int .u32 x8.Seq, .int .i64 x8.Sum, .int .i64 x8.Bits, .ro 2 (x8.Things.map TThing.c)]), (5, .row 7 78 (([(⟨x8.Level, max_ 0 (IntKind.i64.wrap (x8.Life - (min_ by1 65535))), x8.ID, x8.Seq, x8.Sum, x8.Bits, x8.Things⟩ : TLsp)] : List TLsp).map TLsp.c)), (6, .row 7 78 ((out6 ++ ([(⟨x8.Level, max_ 0 (IntKind.i64.wrap (x8.Life - (min_ by1 65535))), x8.ID, x8.Seq, x8.Sum, x8.Bits, x8.Things⟩ : TLsp)] : List TLsp)).map TLsp.c))]) (next' := 7) rfl rfl rfl rfl (elems_own rfl) (by (have h1 := SmB.nL (by assumption); (try simp only [List.length_append, List.length_cons, List.length_nil, decide_eq_true_eq, decide_eq_false_iff_not] at *); omega)) (by ((try simp only [List.length_append, List.length_cons, List.length_nil, List.length_map, decide_eq_true_eq, decide_eq_false_iff_not] at *) <;> omega)) rfl rfl rfl rfl ?_
     refine GX.m rfl ?_
     refine GX.done ?_
     refine WK.nil (QF.normal (hK14 _ ?_))
     refine WK.regx mixed ?_
     refine GX.m rfl ?_
     refine GX.pure (v' := .int .i64 ((i8 + 1 : Nat) : Int)) rfl rfl rfl rfl (congrArg (PVal.int .i64) (wrap_up hlt12 hlen_12)) ?_
     refine GX.m rfl ?_
     refine GX.done ?_
     refine WK.nil (QF.normal ?_)
     exact hagain_12 _ (b0.L.length - (i8 + 1)) ⟨[(1, .int .i64 by1), (2, .ptr 0 0), (4, .ptr 1 0), (6, .own 2 7 0 (out6 ++ ([(⟨x8.Level, max_ 0 (IntKind.i64.wrap (x8.Life - (min_ by1 65535))), x8.ID, x8.Seq, x8.Sum, x8.Bits, x8.Things⟩ : TLsp)] : List TLsp)).length), (7, .own 3 1 0 ids7.length), (8, .int .i64 ((i8 + 1) : Int))], [(0, .box (TBase.c b0)), (1, .box [.int .i64 0, .int .i64 0, .nils, .bool false]), (2, .row 7 78 ((out6 ++ ([(⟨x8.Level, max_ 0 (IntKind.i64.wrap (x8.Life - (min_ by1 65535))), x8.ID, x8.Seq, x8.Sum, x8.Bits, x8.Things⟩ : TLsp)] : List TLsp)).map TLsp.c)), (3, .row 1 22 (ids7.map c_u64))], 4⟩ (by omega) (Conv.keep [0, 1, 6, 3] [] [1, 2, 4, 6, 7, 8] rfl rfl (viewE_cons rfl rfl (viewE_cons rfl rfl (viewE_cons rfl rfl (viewE_cons rfl rfl (viewE_cons rfl rfl (viewE_cons rfl rfl viewE_nil)))))) rfl rfl) ⟨i8 + 1, (out6 ++ ([(⟨x8.Level, max_ 0 (IntKind.i64.wrap (x8.Life - (min_ by1 65535))), x8.ID, x8.Seq, x8.Sum, x8.Bits, x8.Things⟩ : TLsp)] : List TLsp)), ids7, (by omega), rfl, (by ((try simp only [List.length_append, List.length_cons, List.length_nil, decide_eq_true_eq, decide_eq_false_iff_not] at *) <;> first | omega | (rw [wrap64_of (by omega) (by omega)]; omega))), (by omega), hL_12, rfl⟩
    ·rw [hb19]; try simp only [hb19, bb] at hL_12
     refine WK.condT rfl ?_
     refine WK.regx mixed ?_
     refine GX.m rfl ?_
     refine GX.q (.ptr 4 2) ?_
     refine GX.q (.int .u64 x8.ID) ?_
     refine GX.step (v' := .own 5 1 0 (([x8.ID] : List Int)).length) (heap' := [(0, .box (TBase.c b0)), (1, .box [.int .i64 0, .int .i64 0, .nils, .bool false]), (2, .row 7 78 (out6.map TLsp.c)), (3, .row 1 22 (ids7.map c_u64)), (4, .box [.int .i64 x8.Level, .int .i64 (max_ 0 (IntKind.i64.wrap (x8.Life - (min_ by1 65535)))), .int .u64 x8.ID, .int .u32 x8.Seq, .int .i64 x8.Sum, .int .i64 x8.Bits, .ro 2 (x8.Things.map TThing.c)]), (5, .row 1 22 (([x8.ID] : List Int).map c_u64))]) (next' := 6) rfl rfl rfl rfl rfl rfl rfl ?_
     refine GX.appT (c := c_u64) (L := ids7) (X := ([x8.ID] : List Int)) (heap' := [(0, .box (TBase.c b0)), (1, .box [.int .i64 0, .int .i64 0, .nils, .bool false]), (2, .row 7 78 (out6.map TLsp.c)), (4, .box [.int .i64 x8.Level, .int .i64 (max_ 0 (IntKind.i64.wrap (x8.Life - (min_ by1 65535)))), .int .u64 x8.ID, .int .u32 x8.Seq, .int .i64 x8.Sum, .int .i64 x8.Bits, .ro 2 (x8.Things.map TThing.c)]), (5, .row 1 22 (([x8.ID] : List Int).map c_u64)), (6, .row 1 22 ((ids7 ++ ([x8.ID] : List Int)).map c_u64))]) (next' := 7) rfl rfl rfl rfl (elems_own rfl) (by (have h1 := SmB.nL (by assumption); (try simp only [List.length_append, List.length_cons, List.length_nil, decide_eq_true_eq, decide_eq_false_iff_not] at *); omega)) (by ((try simp only [List.length_append, List.length_cons, List.length_nil, List.length_map, decide_eq_true_eq, decide_eq_false_iff_not] at *) <;> omega)) rfl rfl rfl rfl ?_
     refine GX.m rfl ?_
     refine GX.done ?_
     refine WK.regx mixed ?_
     refine GX.m rfl ?_
     refine GX.q (.agg [.int .i64 x8.Level, .int .i64 (max_ 0 (IntKind.i64.wrap (x8.Life - (min_ by1 65535)))), .int .u64 x8.ID, .int .u32 x8.Seq, .int .i64 x8.Sum, .int .i64 x8.Bits, .ro 2 (x8.Things.map TThing.c)]) ?_
     refine GX.step (v' := .own 7 7 0 (([(⟨x8.Level, max_ 0 (IntKind.i64.wrap (x8.Life - (min_ by1 65535))), x8.ID, x8.Seq, x8.Sum, x8.Bits, x8.Things⟩ : TLsp)] : List TLsp)).length) (heap' := [(0, .box (TBase.c b0)), (1, .box [.int .i64 0, .int .i64 0, .nils, .bool false]), (2, .row 7 78 (out6.map TLsp.c)), (4, .box [.int .i64 x8.Level, .int .i64 (max_ 0 (IntKind.i64.wrap (x8.Life - (min_ by1 65535)))), .int .u64 x8.ID, .int .u32 x8.Seq, .int .i64 x8.Sum, .int .i64 x8.Bits, .ro 2 (x8.Things.map TThing.c)]), (5, .row 1 22 (([x8.ID] : List Int).map c_u64)), (6, .row 1 22 ((ids7 ++ ([x8.ID] : List Int)).map c_u64)), (7, .row 7 78 (([(⟨x8.Level, max_ 0 (IntKind.i64.wrap (x8.Life - (min_ by1 65535))), x8.ID, x8.Seq, x8.Sum, x8.Bits, x8.Things⟩ : TLsp)] : List TLsp).map TLsp.c))]) (next' := 8) rfl rfl rfl rfl rfl rfl rfl ?_
     refine GX.appT (c := TLsp.c) (L := out6) (X := ([(⟨x8.Level, max_ 0 (IntKind.i64.wrap (x8.Life - (min_ by1 65535))), x8.ID, x8.Seq, x8.Sum, x8.Bits, x8.Things⟩ : TLsp)] : List TLsp)) (heap' := [(0, .box (TBase.c b0)), (1, .box [.int .i64 0, .int .i64 0, .nils, .bool false]), (4, .box [.int .i64 x8.Level, .int .i64 (max_ 0 (IntKind.i64.wrap (x8.Life - (min_ by1 65535)))), .int .u64 x8.ID, .int .u32 x8.Seq, .int .i64 x8.Sum, .int .i64 x8.Bits, .ro 2 (x8.Things.map TThing.c)]), (5, .row 1 22 (([x8.ID] : List Int).map c_u64)), (6, .row 1 22 ((ids7 ++ ([x8.ID] : List Int)).map c_u64)), (7, .row 7 78 (([(⟨x8.Level, max_ 0 (IntKind.i64.wrap (x8.Life - (min_ by1 65535))), x8.ID, x8.Seq, x8.Sum, x8.Bits, x8.Things⟩ : TLsp)] : List TLsp).map TLsp.c)), (8, .row 7 78 ((out6 ++ ([(⟨x8.Level, max_ 0 (IntKind.i64.wrap (x8.Life - (min_ by1 65535))), x8.ID, x8.Seq, x8.Sum, x8.Bits, x8.Things⟩ : TLsp)] : List TLsp)).map TLsp.c))]) (next' := 9) rfl rfl rfl rfl (elems_own rfl) (by (have h1 := SmB.nL (by assumption); (try simp only [List.length_append, List.length_cons, List.length_nil, decide_eq_true_eq, decide_eq_false_iff_not] at *); omega)) (by ((try simp only [List.length_append, List.length_cons, List.length_nil, List.length_map, decide_eq_true_eq, decide_eq_false_iff_not] at *) <;> omega)) rfl rfl rfl rfl ?_
     refine GX.m rfl ?_
     refine GX.done ?_
     refine WK.nil (QF.normal (hK14 _ ?_))
     refine WK.regx mixed ?_
     refine GX.m rfl ?_
     refine GX.pure (v' := .int .i64 ((i8 + 1 : Nat) : Int)) rfl rfl rfl rfl (congrArg (PVal.int .i64) (wrap_up hlt12 hlen_12)) ?_
     refine GX.m rfl ?_
     refine GX.done ?_
     refine WK.nil (QF.normal ?_)
     exact hagain_12 _ (b0.L.length - (i8 + 1)) ⟨[(1, .int .i64 by1), (2, .ptr 0 0), (4, .ptr 1 0), (6, .own 2 7 0 (out6 ++ ([(⟨x8.Level, max_ 0 (IntKind.i64.wrap (x8.Life - (min_ by1 65535))), x8.ID, x8.Seq, x8.Sum, x8.Bits, x8.Things⟩ : TLsp)] : List TLsp)).length), (7, .own 3 1 0 (ids7 ++ ([x8.ID] : List Int)).length), (8, .int .i64 ((i8 + 1) : Int))], [(0, .box (TBase.c b0)), (1, .box [.int .i64 0, .int .i64 0, .nils, .bool false]), (2, .row 7 78 ((out6 ++ ([(⟨x8.Level, max_ 0 (IntKind.i64.wrap (x8.Life - (min_ by1 65535))), x8.ID, x8.Seq, x8.Sum, x8.Bits, x8.Things⟩ : TLsp)] : List TLsp)).map TLsp.c)), (3, .row 1 22 ((ids7 ++ ([x8.ID] : List Int)).map c_u64))], 4⟩ (by omega) (Conv.keep [0, 1, 8, 6] [] [1, 2, 4, 6, 7, 8] rfl rfl (viewE_cons rfl rfl (viewE_cons rfl rfl (viewE_cons rfl rfl (viewE_cons rfl rfl (viewE_cons rfl rfl (viewE_cons rfl rfl viewE_nil)))))) rfl rfl) ⟨i8 + 1, (out6 ++ ([(⟨x8.Level, max_ 0 (IntKind.i64.wrap (x8.Life - (min_ by1 65535))), x8.ID, x8.Seq, x8.Sum, x8.Bits, x8.Things⟩ : TLsp)] : List TLsp)), (ids7 ++ ([x8.ID] : List Int)), (by omega), rfl, (by ((try simp only [List.length_append, List.length_cons, List.length_nil, decide_eq_true_eq, decide_eq_false_iff_not] at *) <;> first | omega | (rw [wrap64_of (by omega) (by omega)]; omega))), (by ((try simp only [List.length_append, List.length_cons, List.length_nil, decide_eq_true_eq, decide_eq_false_iff_not] at *) <;> first | omega | (rw [wrap64_of (by omega) (by omega)]; omega))), hL_12, rfl⟩

theorem f28_ok (a0 : List Int) (b1 : List Int) (R : Bool) (hR : F28_crossroadsref23_IDs a0 b1 = R) : FnOk Try.prog 28 [.ro 1 (a0.map c_u64), .ro 1 (b1.map c_u64)] [] 0 (.bool R) [] 0 := by
 refine FnOk.wk i28 rfl rfl ?_
 unfold F28_crossroadsref23_IDs at hR
 change WK _ _ _ [ac28] _ ⟨[(0, .ro 1 (a0.map c_u64)), (1, .ro 1 (b1.map c_u64))], [], 0⟩
 unfold ac28
 refine WK.sr mixed ?_
 refine GX.m rfl ?_
 refine GX.done ?_
 refine WK.seq ?_
 refine WK.sr mixed ?_
 refine GX.m rfl ?_
 refine GX.pure (v' := .int .i64 (a0.length : Int)) rfl rfl rfl rfl (len_map _ _) ?_
 refine GX.m rfl ?_
 refine GX.pure (v' := .int .i64 (b1.length : Int)) rfl rfl rfl rfl (len_map _ _) ?_
 refine GX.q (.bool (!decide ((a0.length : Int) = (b1.length : Int)))) ?_
 refine GX.done ?_
 rcases bool_two (decide ((a0.length : Int) = (b1.length : Int))) with hb1 | hb1
 ·rw [hb1]; try simp only [hb1, bb] at hR
  refine WK.condT rfl ?_
  refine WK.sr mixed ?_
  refine GX.m rfl ?_
  refine GX.done ?_
  refine WK.ret ?_
  subst hR
  exact RetQ.fr [] (.inr rfl) rfl rfl rfl rfl
 ·rw [hb1]; try simp only [hb1, bb] at hR
  refine WK.condF rfl ?_
  refine WK.skip ?_
  refine WK.seq ?_
  refine WK.sr mixed ?_
  refine GX.m rfl ?_
  refine GX.done ?_
  refine WK.len (t := 0) rfl (by simp) (fun hlen_2 => ?_)
  rw [List.length_map] at hlen_2
  generalize hZ_2 : F28_crossroadsref23_IDs_l1 b1 0 a0 = Z_2 at hR
  refine WK.forK (fun k s => ∃ (i5 : Nat), i5 ≤ a0.length ∧ k = a0.length - i5 ∧ F28_crossroadsref23_IDs_l1 b1 i5 (a0.drop i5) = Z_2 ∧ s = ⟨[(0, .ro 1 (a0.map c_u64)), (1, .ro 1 (b1.map c_u64)), (5, .int .i64 (i5 : Int))], [], 0⟩) a0.length ⟨⟨[(0, .ro 1 (a0.map c_u64)), (1, .ro 1 (b1.map c_u64)), (5, .int .i64 (0 : Int))], [], 0⟩, Conv.keep [] [] [0, 1, 5] rfl rfl (viewE_cons rfl rfl (viewE_cons rfl rfl (viewE_cons rfl rfl viewE_nil))) rfl rfl, 0, (by omega), rfl, hZ_2, rfl⟩ ?_
  rintro _ _ ⟨i5, hi_2, rfl, hL_2, rfl⟩ again_2 out_2 Q_2 hagain_2 hout_2 hQ_2
  refine WK.seq ?_
  refine WK.sr mixed ?_
  iterate 2 refine GX.m rfl ?_
  refine GX.pure (v' := .int .i64 (a0.length : Int)) rfl rfl rfl rfl (len_map _ _) ?_
  refine GX.q (.bool (decide ((i5 : Int) < (a0.length : Int)))) ?_
  refine GX.done ?_
  rcases bool_two (decide ((i5 : Int) < (a0.length : Int))) with hb3 | hb3
  ·rw [hb3]
   rw [drop_end hb3, F28_crossroadsref23_IDs_l1] at hL_2
   refine WK.condF rfl ?_
   refine WK.exit ?_
   refine QF.exit (hout_2 _ ?_)
   subst hL_2
   try dsimp only [cond_true, cond_false] at hR
   refine WK.sr mixed ?_
   refine GX.m rfl ?_
   refine GX.done ?_
   refine WK.ret ?_
   subst hR
   exact RetQ.fr [] (.inr rfl) rfl rfl rfl rfl
  ·rw [hb3]
   obtain ⟨x5, hx2, hd2, hlt2⟩ := drop_more hb3
   rw [hd2, F28_crossroadsref23_IDs_l1] at hL_2
   refine WK.condT rfl ?_
   refine WK.skip ?_
   refine WK.seq ?_
   refine WK.blockK (fun _ hK4 => ?_)
   refine WK.seq ?_
   refine WK.drawn mixed ?_
   iterate 2 refine RD.m rfl ?_
   refine RD.idxT (c := c_u64) (x := x5) rfl rfl rfl (Int.natCast_nonneg _) hx2 ?_
   refine RD.q (.int .u64 x5) ?_
   iterate 2 refine RD.m rfl ?_
   refine RD.idxT (c := c_u64) (x := (b1.getD i5 default)) rfl rfl rfl (Int.natCast_nonneg _) (getD_at (by ((try simp only [decide_eq_true_eq] at *); first | omega | (rw [wrap64_of (by omega) (by omega)]; omega)))) ?_
   refine RD.q (.int .u64 (b1.getD i5 default)) ?_
   refine RD.q (.bool (!decide (x5 = (b1.getD i5 default)))) ?_
   refine RD.done rfl ?_
   rcases bool_two (decide (x5 = (b1.getD i5 default))) with hb5 | hb5
   ·rw [hb5]; try simp only [hb5, bb] at hL_2
    refine WK.condT rfl ?_
    refine WK.sr mixed ?_
    refine GX.m rfl ?_
    refine GX.done ?_
    refine WK.ret ?_
    refine QF.ret ?_
    refine QF.ret (hQ_2 _ _ ?_)
    subst hL_2
    subst hR
    exact RetQ.fr [] (.inr rfl) rfl rfl rfl rfl
   ·rw [hb5]; try simp only [hb5, bb] at hL_2
    refine WK.condF rfl ?_
    refine WK.skip ?_
    refine WK.nil (QF.normal (hK4 _ ?_))
    refine WK.regx mixed ?_
    refine GX.m rfl ?_
    refine GX.pure (v' := .int .i64 ((i5 + 1 : Nat) : Int)) rfl rfl rfl rfl (congrArg (PVal.int .i64) (wrap_up hlt2 hlen_2)) ?_
    refine GX.m rfl ?_
    refine GX.done ?_
    refine WK.nil (QF.normal ?_)
    exact hagain_2 _ (a0.length - (i5 + 1)) ⟨[(0, .ro 1 (a0.map c_u64)), (1, .ro 1 (b1.map c_u64)), (5, .int .i64 ((i5 + 1) : Int))], [], 0⟩ (by omega) (Conv.keep [] [] [0, 1, 5] rfl rfl (viewE_cons rfl rfl (viewE_cons rfl rfl (viewE_cons rfl rfl viewE_nil))) rfl rfl) ⟨i5 + 1, (by omega), rfl, hL_2, rfl⟩

theorem f54_ok (b0 : TBase) (id1 : Int) (R : TLsp × Bool) (hR : F54_crossroadsref23_Find b0 id1 = R) : FnOk Try.prog 54 [.agg (TBase.c b0), .int .u64 id1] [] 0 (.tup [.agg (TLsp.c R.1), .bool R.2]) [] 0 := by
 refine FnOk.wk i54 rfl rfl ?_
 unfold F54_crossroadsref23_Find at hR
 change WK _ _ _ [ac54] _ ⟨[(0, .agg (TBase.c b0)), (1, .int .u64 id1)], [], 0⟩
 unfold ac54
 refine WK.sr mixed ?_
 refine GX.step (v' := .ptr 0 0) (heap' := [(0, .box (TBase.c b0))]) (next' := 1) rfl rfl rfl rfl rfl rfl rfl ?_
 refine GX.step (v' := .ptr 1 0) (heap' := [(0, .box (TBase.c b0)), (1, .box [.int .i64 0, .int .i64 0, .int .u64 0, .int .u32 0, .int .i64 0, .int .i64 0, .nils])]) (next' := 2) rfl rfl rfl rfl rfl rfl rfl ?_
 refine GX.m rfl ?_
 refine GX.done ?_
 refine WK.seq ?_
 refine WK.sr mixed ?_
 refine GX.m rfl ?_
 refine GX.done ?_
 refine WK.lenb (id := 0) (j := 2) rfl rfl (by simp) (fun hlen_1 => ?_)
 rw [List.length_map] at hlen_1
 generalize hZ_1 : F54_crossroadsref23_Find_l1 id1 b0.L = Z_1 at hR
 refine WK.forK (fun k s => ∃ (i6 : Nat), i6 ≤ b0.L.length ∧ k = b0.L.length - i6 ∧ F54_crossroadsref23_Find_l1 id1 (b0.L.drop i6) = Z_1 ∧ s = ⟨[(1, .int .u64 id1), (2, .ptr 0 0), (4, .ptr 1 0), (6, .int .i64 (i6 : Int))], [(0, .box (TBase.c b0)), (1, .box [.int .i64 0, .int .i64 0, .int .u64 0, .int .u32 0, .int .i64 0, .int .i64 0, .nils])], 2⟩) b0.L.length ⟨⟨[(1, .int .u64 id1), (2, .ptr 0 0), (4, .ptr 1 0), (6, .int .i64 (0 : Int))], [(0, .box (TBase.c b0)), (1, .box [.int .i64 0, .int .i64 0, .int .u64 0, .int .u32 0, .int .i64 0, .int .i64 0, .nils])], 2⟩, Conv.keep [0, 1] [] [1, 2, 4, 6] rfl rfl (viewE_cons rfl rfl (viewE_cons rfl rfl (viewE_cons rfl rfl (viewE_cons rfl rfl viewE_nil)))) rfl rfl, 0, (by omega), rfl, hZ_1, rfl⟩ ?_
 rintro _ _ ⟨i6, hi_1, rfl, hL_1, rfl⟩ again_1 out_1 Q_1 hagain_1 hout_1 hQ_1
 refine WK.seq ?_
 refine WK.sr mixed ?_
 refine GX.m rfl ?_
 refine GX.q (.ptr 0 2) ?_
 refine GX.q (.ro 7 (b0.L.map TLsp.c)) ?_
 refine GX.pure (v' := .int .i64 (b0.L.length : Int)) rfl rfl rfl rfl (len_map _ _) ?_
 refine GX.q (.bool (decide ((i6 : Int) < (b0.L.length : Int)))) ?_
 refine GX.done ?_
 rcases bool_two (decide ((i6 : Int) < (b0.L.length : Int))) with hb2 | hb2
 ·rw [hb2]
  rw [drop_end hb2, F54_crossroadsref23_Find_l1] at hL_1
  refine WK.condF rfl ?_
  refine WK.exit ?_
  refine QF.exit (hout_1 _ ?_)
  subst hL_1
  try dsimp only [cond_true, cond_false] at hR
  refine WK.sr mixed ?_
  refine GX.q (.agg [.int .i64 0, .int .i64 0, .int .u64 0, .int .u32 0, .int .i64 0, .int .i64 0, .nils]) ?_
  refine GX.step0 (heap' := [(0, .box (TBase.c b0)), (1, .box [.int .i64 0, .int .i64 0, .int .u64 0, .int .u32 0, .int .i64 0, .int .i64 0, .nils])]) (next' := 2) rfl rfl rfl rfl rfl ?_
  refine GX.m rfl ?_
  refine GX.done ?_
  refine WK.ret ?_
  subst hR
  exact RetQ.frw [] (.inr rfl) rfl rfl rfl (.tup (.cons (.agg (.cons .refl (.cons .refl (.cons .refl (.cons .refl (.cons .refl (.cons .refl (.cons .nil .refl)))))))) .refl))
 ·rw [hb2]
  obtain ⟨x6, hx1, hd1, hlt1⟩ := drop_more hb2
  rw [hd1, F54_crossroadsref23_Find_l1] at hL_1
  refine WK.condT rfl ?_
  refine WK.skip ?_
  refine WK.seq ?_
  refine WK.blockK (fun _ hK3 => ?_)
  refine WK.sr mixed ?_
  refine GX.q (.ptr 0 2) ?_
  refine GX.q (.ro 7 (b0.L.map TLsp.c)) ?_
  refine GX.m rfl ?_
  refine GX.idxT (c := TLsp.c) (x := x6) rfl rfl rfl (Int.natCast_nonneg _) hx1 ?_
  refine GX.q (.rptr [.int .u64 x6.ID, .int .u32 x6.Seq, .int .i64 x6.Sum, .int .i64 x6.Bits, .ro 2 (x6.Things.map TThing.c)]) ?_
  refine GX.q (.int .u64 x6.ID) ?_
  refine GX.m rfl ?_
  refine GX.q (.bool (decide (x6.ID = id1))) ?_
  refine GX.done ?_
  rcases bool_two (decide (x6.ID = id1)) with hb4 | hb4
  ·rw [hb4]; try simp only [hb4, bb] at hL_1
   refine WK.condF rfl ?_
   refine WK.skip ?_
   refine WK.nil (QF.normal (hK3 _ ?_))
   refine WK.regx mixed ?_
   refine GX.m rfl ?_
   refine GX.pure (v' := .int .i64 ((i6 + 1 : Nat) : Int)) rfl rfl rfl rfl (congrArg (PVal.int .i64) (wrap_up hlt1 hlen_1)) ?_
   refine GX.m rfl ?_
   refine GX.done ?_
   refine WK.nil (QF.normal ?_)
   exact hagain_1 _ (b0.L.length - (i6 + 1)) ⟨[(1, .int .u64 id1), (2, .ptr 0 0), (4, .ptr 1 0), (6, .int .i64 ((i6 + 1) : Int))], [(0, .box (TBase.c b0)), (1, .box [.int .i64 0, .int .i64 0, .int .u64 0, .int .u32 0, .int .i64 0, .int .i64 0, .nils])], 2⟩ (by omega) (Conv.keep [0, 1] [] [1, 2, 4, 6] rfl rfl (viewE_cons rfl rfl (viewE_cons rfl rfl (viewE_cons rfl rfl (viewE_cons rfl rfl viewE_nil)))) rfl rfl) ⟨i6 + 1, (by omega), rfl, hL_1, rfl⟩
  ·rw [hb4]; try simp only [hb4, bb] at hL_1
   refine WK.condT rfl ?_
   refine WK.sr mixed ?_
   refine GX.q (.ptr 0 2) ?_
   refine GX.q (.ro 7 (b0.L.map TLsp.c)) ?_
   refine GX.m rfl ?_
   refine GX.idxT (c := TLsp.c) (x := x6) rfl rfl rfl (Int.natCast_nonneg _) hx1 ?_
   refine GX.q (.agg (TLsp.c x6)) ?_
   refine GX.step0 (heap' := [(0, .box (TBase.c b0)), (1, .box (TLsp.c x6))]) (next' := 2) rfl rfl rfl rfl rfl ?_
   refine GX.m rfl ?_
   refine GX.done ?_
   refine WK.ret ?_
   refine QF.ret ?_
   refine QF.ret (hQ_1 _ _ ?_)
   subst hL_1
   subst hR
   exact RetQ.fr [] (.inr rfl) rfl rfl rfl rfl

theorem f55_ok (b0 : TBase) (x1 : TLsp) (hp0 : SmB b0) (R : TBase) (hR : F55_crossroadsref23_into b0 x1 = R) : FnOk Try.prog 55 [.agg (TBase.c b0), .agg (TLsp.c x1)] [] 0 (.agg (TBase.c R)) [] 0 := by
 refine FnOk.wk i55 rfl rfl ?_
 unfold F55_crossroadsref23_into at hR
 change WK _ _ _ [ac55] _ ⟨[(0, .agg (TBase.c b0)), (1, .agg (TLsp.c x1))], [], 0⟩
 unfold ac55
 refine WK.sr mixed ?_
 refine GX.step (v' := .ptr 0 0) (heap' := [(0, .box (TBase.c b0))]) (next' := 1) rfl rfl rfl rfl rfl rfl rfl ?_
 refine GX.step (v' := .ptr 1 0) (heap' := [(0, .box (TBase.c b0)), (1, .box (TLsp.c x1))]) (next' := 2) rfl rfl rfl rfl rfl rfl rfl ?_
 refine GX.step (v' := .ptr 2 0) (heap' := [(0, .box (TBase.c b0)), (1, .box (TLsp.c x1)), (2, .box [.int .i64 0, .int .i64 0, .nils, .bool false])]) (next' := 3) rfl rfl rfl rfl rfl rfl rfl ?_
 refine GX.done ?_
 refine WK.sr mixed ?_
 refine GX.step (v' := .own 3 7 0 (([] : List TLsp)).length) (heap' := [(0, .box (TBase.c b0)), (1, .box (TLsp.c x1)), (2, .box [.int .i64 0, .int .i64 0, .nils, .bool false]), (3, .row 7 78 (([] : List TLsp).map TLsp.c))]) (next' := 4) rfl rfl rfl rfl rfl rfl rfl ?_
 refine GX.m rfl ?_
 refine GX.done ?_
 refine WK.sr mixed ?_
 refine GX.m rfl ?_
 refine GX.done ?_
 refine WK.seq ?_
 refine WK.sr mixed ?_
 refine GX.m rfl ?_
 refine GX.done ?_
 refine WK.lenb (id := 0) (j := 2) rfl rfl (by simp) (fun hlen_12 => ?_)
 rw [List.length_map] at hlen_12
 generalize hZ_12 : F55_crossroadsref23_into_l1 x1 false ([] : List TLsp) b0.L = Z_12 at hR
 refine WK.forK (fun k s => ∃ (i7 : Nat) (put6 : Bool) (out5 : List TLsp), i7 ≤ b0.L.length ∧ k = b0.L.length - i7 ∧ out5.length ≤ 2 * i7 ∧ F55_crossroadsref23_into_l1 x1 put6 out5 (b0.L.drop i7) = Z_12 ∧ s = ⟨[(2, .ptr 0 0), (3, .ptr 1 0), (4, .ptr 2 0), (5, .own 3 7 0 out5.length), (6, .bool put6), (7, .int .i64 (i7 : Int))], [(0, .box (TBase.c b0)), (1, .box (TLsp.c x1)), (2, .box [.int .i64 0, .int .i64 0, .nils, .bool false]), (3, .row 7 78 (out5.map TLsp.c))], 4⟩) b0.L.length ⟨⟨[(2, .ptr 0 0), (3, .ptr 1 0), (4, .ptr 2 0), (5, .own 3 7 0 ([] : List TLsp).length), (6, .bool false), (7, .int .i64 (0 : Int))], [(0, .box (TBase.c b0)), (1, .box (TLsp.c x1)), (2, .box [.int .i64 0, .int .i64 0, .nils, .bool false]), (3, .row 7 78 (([] : List TLsp).map TLsp.c))], 4⟩, Conv.keep [0, 1, 2, 3] [] [2, 3, 4, 5, 6, 7] rfl rfl (viewE_cons rfl rfl (viewE_cons rfl rfl (viewE_cons rfl rfl (viewE_cons rfl rfl (viewE_cons rfl rfl (viewE_cons rfl rfl viewE_nil)))))) rfl rfl, 0, false, ([] : List TLsp), (by omega), rfl, (by ((try simp only [List.length_append, List.length_cons, List.length_nil, decide_eq_true_eq, decide_eq_false_iff_not] at *) <;> first | omega | (rw [wrap64_of (by omega) (by omega)]; omega))), hZ_12, rfl⟩ ?_
 rintro _ _ ⟨i7, put6, out5, hi_12, rfl, hinv12_out5, hL_12, rfl⟩ again_12 out_12 Q_12 hagain_12 hout_12 hQ_12
 refine WK.seq ?_
 refine WK.sr mixed ?_
 refine GX.m rfl ?_
 refine GX.q (.ptr 0 2) ?_
 refine GX.q (.ro 7 (b0.L.map TLsp.c)) ?_
 refine GX.pure (v' := .int .i64 (b0.L.length : Int)) rfl rfl rfl rfl (len_map _ _) ?_
 refine GX.q (.bool (decide ((i7 : Int) < (b0.L.length : Int)))) ?_
 refine GX.done ?_
 rcases bool_two (decide ((i7 : Int) < (b0.L.length : Int))) with hb13 | hb13
 ·rw [hb13]
  rw [drop_end hb13, F55_crossroadsref23_into_l1] at hL_12
  refine WK.condF rfl ?_
  refine WK.exit ?_
  refine QF.exit (hout_12 _ ?_)
  subst hL_12
  try dsimp only [cond_true, cond_false] at hR
  refine WK.seq ?_
  refine WK.sr mixed ?_
  refine GX.m rfl ?_
  refine GX.q (.bool (!put6)) ?_
  refine GX.done ?_
  rcases bool_two (put6) with hb14 | hb14
  ·rw [hb14]; try simp only [hb14, bb] at hR
   refine WK.condT rfl ?_
   refine WK.regx mixed ?_
   refine GX.m rfl ?_
   refine GX.q (.agg (TLsp.c x1)) ?_
   refine GX.step (v' := .own 4 7 0 (([x1] : List TLsp)).length) (heap' := [(0, .box (TBase.c b0)), (1, .box (TLsp.c x1)), (2, .box [.int .i64 0, .int .i64 0, .nils, .bool false]), (3, .row 7 78 (out5.map TLsp.c)), (4, .row 7 78 (([x1] : List TLsp).map TLsp.c))]) (next' := 5) rfl rfl rfl rfl rfl rfl rfl ?_
   refine GX.appT (c := TLsp.c) (L := out5) (X := ([x1] : List TLsp)) (heap' := [(0, .box (TBase.c b0)), (1, .box (TLsp.c x1)), (2, .box [.int .i64 0, .int .i64 0, .nils, .bool false]), (4, .row 7 78 (([x1] : List TLsp).map TLsp.c)), (5, .row 7 78 ((out5 ++ ([x1] : List TLsp)).map TLsp.c))]) (next' := 6) rfl rfl rfl rfl (elems_own rfl) (by (have h1 := SmB.nL (by assumption); (try simp only [List.length_append, List.length_cons, List.length_nil, decide_eq_true_eq, decide_eq_false_iff_not] at *); omega)) (by (have h1 := SmB.nL (by assumption); (try simp only [List.length_append, List.length_cons, List.length_nil, decide_eq_true_eq, decide_eq_false_iff_not] at *); omega)) rfl rfl rfl rfl ?_
   refine GX.m rfl ?_
   refine GX.done ?_
   refine WK.sr mixed ?_
   refine GX.m rfl ?_
   refine GX.q (.ptr 0 2) ?_
   refine GX.step0 (heap' := [(0, .box [.int .i64 b0.Level, .int .i64 b0.Max, .own 5 7 0 (out5 ++ ([x1] : List TLsp)).length, .bool b0.Over]), (1, .box (TLsp.c x1)), (2, .box [.int .i64 0, .int .i64 0, .nils, .bool false]), (4, .row 7 78 (([x1] : List TLsp).map TLsp.c)), (5, .row 7 78 ((out5 ++ ([x1] : List TLsp)).map TLsp.c))]) (next' := 6) rfl rfl rfl rfl rfl ?_
   refine GX.done ?_
   refine WK.sr mixed ?_
   refine GX.q (.agg [.int .i64 b0.Level, .int .i64 b0.Max, .own 5 7 0 (out5 ++ ([x1] : List TLsp)).length, .bool b0.Over]) ?_
   refine GX.step0 (heap' := [(0, .box [.int .i64 b0.Level, .int .i64 b0.Max, .own 5 7 0 (out5 ++ ([x1] : List TLsp)).length, .bool b0.Over]), (1, .box (TLsp.c x1)), (2, .box [.int .i64 b0.Level, .int .i64 b0.Max, .own 5 7 0 (out5 ++ ([x1] : List TLsp)).length, .bool b0.Over]), (4, .row 7 78 (([x1] : List TLsp).map TLsp.c)), (5, .row 7 78 ((out5 ++ ([x1] : List TLsp)).map TLsp.c))]) (next' := 6) rfl rfl rfl rfl rfl ?_
   refine GX.done ?_
   refine WK.ret ?_
   subst hR
   exact RetQ.fr [5] (.inr rfl) rfl rfl (viewGo_cons (viewP_agg (viewGo_cons rfl (viewGo_cons rfl (viewGo_cons (view_rowT rfl rfl) (viewGo_cons rfl viewGo_nil))))) viewGo_nil) rfl
  ·rw [hb14]; try simp only [hb14, bb] at hR
   refine WK.condF rfl ?_
   refine WK.skip ?_
   refine WK.sr mixed ?_
   refine GX.m rfl ?_
   refine GX.q (.ptr 0 2) ?_
   refine GX.step0 (heap' := [(0, .box [.int .i64 b0.Level, .int .i64 b0.Max, .own 3 7 0 out5.length, .bool b0.Over]), (1, .box (TLsp.c x1)), (2, .box [.int .i64 0, .int .i64 0, .nils, .bool false]), (3, .row 7 78 (out5.map TLsp.c))]) (next' := 4) rfl rfl rfl rfl rfl ?_
   refine GX.done ?_
   refine WK.sr mixed ?_
   refine GX.q (.agg [.int .i64 b0.Level, .int .i64 b0.Max, .own 3 7 0 out5.length, .bool b0.Over]) ?_
   refine GX.step0 (heap' := [(0, .box [.int .i64 b0.Level, .int .i64 b0.Max, .own 3 7 0 out5.length, .bool b0.Over]), (1, .box (TLsp.c x1)), (2, .box [.int .i64 b0.Level, .int .i64 b0.Max, .own 3 7 0 out5.length, .bool b0.Over]), (3, .row 7 78 (out5.map TLsp.c))]) (next' := 4) rfl rfl rfl rfl rfl ?_
   refine GX.done ?_
   refine WK.ret ?_
   subst hR
   exact RetQ.fr [3] (.inr rfl) rfl rfl (viewGo_cons (viewP_agg (viewGo_cons rfl (viewGo_cons rfl (viewGo_cons (view_rowT rfl rfl) (viewGo_cons rfl viewGo_nil))))) viewGo_nil) rfl
 ·rw [hb13]
  obtain ⟨x7, hx12, hd12, hlt12⟩ := drop_more hb13
  rw [hd12, F55_crossroadsref23_into_l1] at hL_12
  refine WK.condT rfl ?_
  refine WK.skip ?_
  refine WK.seq ?_
  refine WK.blockK (fun _ hK15 => ?_)
  iterate 2 refine WK.seq ?_
  refine WK.drawn mixed ?_
  refine RD.m rfl ?_
  refine RD.q (.bool (!put6)) ?_
  refine RD.m rfl ?_
  rcases bool_two (put6) with hb16 | hb16
  ·rw [hb16]; try simp only [hb16, bb] at hL_12
   refine RD.q (.ptr 0 2) ?_
   refine RD.q (.ro 7 (b0.L.map TLsp.c)) ?_
   refine RD.m rfl ?_
   refine RD.idxT (c := TLsp.c) (x := x7) rfl rfl rfl (Int.natCast_nonneg _) hx12 ?_
   refine RD.q (.rptr [.int .u64 x7.ID, .int .u32 x7.Seq, .int .i64 x7.Sum, .int .i64 x7.Bits, .ro 2 (x7.Things.map TThing.c)]) ?_
   refine RD.q (.int .u64 x7.ID) ?_
   refine RD.q (.ptr 1 2) ?_
   refine RD.q (.int .u64 x1.ID) ?_
   iterate 2 refine RD.q (.bool (decide (x1.ID ≤ x7.ID))) ?_
   refine RD.done rfl ?_
   rcases bool_two (decide (x1.ID ≤ x7.ID)) with hb17 | hb17
   ·rw [hb17]; try simp only [hb17, bb] at hL_12
    refine WK.condF rfl ?_
    refine WK.skip ?_
    refine WK.seq ?_
    refine WK.drawn mixed ?_
    refine RD.q (.ptr 0 2) ?_
    refine RD.q (.ro 7 (b0.L.map TLsp.c)) ?_
    refine RD.m rfl ?_
    refine RD.idxT (c := TLsp.c) (x := x7) rfl rfl rfl (Int.natCast_nonneg _) hx12 ?_
    refine RD.q (.rptr [.int .u64 x7.ID, .int .u32 x7.Seq, .int .i64 x7.Sum, .int .i64 x7.Bits, .ro 2 (x7.Things.map TThing.c)]) ?_
    refine RD.q (.int .u64 x7.ID) ?_
    refine RD.q (.ptr 1 2) ?_
    refine RD.q (.int .u64 x1.ID) ?_
    refine RD.q (.bool (!decide (x7.ID = x1.ID))) ?_
    refine RD.done rfl ?_
    rcases bool_two (decide (x7.ID = x1.ID)) with hb18 | hb18
    ·rw [hb18]; try simp only [hb18, bb] at hL_12
     refine WK.condT rfl ?_
     refine WK.regx mixed ?_
     refine GX.m rfl ?_
     refine GX.q (.ptr 0 2) ?_
     refine GX.q (.ro 7 (b0.L.map TLsp.c)) ?_
     refine GX.m rfl ?_
     refine GX.idxT (c := TLsp.c) (x := x7) rfl rfl rfl (Int.natCast_nonneg _) hx12 ?_
     refine GX.q (.agg (TLsp.c x7)) ?_
     refine GX.step (v' := .own 4 7 0 (([x7] : List TLsp)).length) (heap' := [(0, .box (TBase.c b0)), (1, .box (TLsp.c x1)), (2, .box [.int .i64 0, .int .i64 0, .nils, .bool false]), (3, .row 7 78 (out5.map TLsp.c)), (4, .row 7 78 (([x7] : List TLsp).map TLsp.c))]) (next' := 5) rfl rfl rfl rfl rfl rfl rfl ?_
     refine GX.appT (c := TLsp.c) (L := out5) (X := ([x7] : List TLsp)) (heap' := [(0, .box (TBase.c b0)), (1, .box (TLsp.c x1)), (2, .box [.int .i64 0, .int .i64 0, .nils, .bool false]), (4, .row 7 78 (([x7] : List TLsp).map TLsp.c)), (5, .row 7 78 ((out5 ++ ([x7] : List TLsp)).map TLsp.c))]) (next' := 6) rfl rfl rfl rfl (elems_own rfl) (by (have h1 := SmB.nL (by assumption); (try simp only [List.length_append, List.length_cons, List.length_nil, decide_eq_true_eq, decide_eq_false_iff_not] at *); omega)) (by (have h1 := SmB.nL (by assumption); (try simp only [List.length_append, List.length_cons, List.length_nil, decide_eq_true_eq, decide_eq_false_iff_not] at *); omega)) rfl rfl rfl rfl ?_
     refine GX.m rfl ?_
     refine GX.done ?_
     refine WK.nil (QF.normal (hK15 _ ?_))
     refine WK.regx mixed ?_
     refine GX.m rfl ?_
     refine GX.pure (v' := .int .i64 ((i7 + 1 : Nat) : Int)) rfl rfl rfl rfl (congrArg (PVal.int .i64) (wrap_up hlt12 hlen_12)) ?_
     refine GX.m rfl ?_
     refine GX.done ?_
     refine WK.nil (QF.normal ?_)
     exact hagain_12 _ (b0.L.length - (i7 + 1)) ⟨[(2, .ptr 0 0), (3, .ptr 1 0), (4, .ptr 2 0), (5, .own 3 7 0 (out5 ++ ([x7] : List TLsp)).length), (6, .bool false), (7, .int .i64 ((i7 + 1) : Int))], [(0, .box (TBase.c b0)), (1, .box (TLsp.c x1)), (2, .box [.int .i64 0, .int .i64 0, .nils, .bool false]), (3, .row 7 78 ((out5 ++ ([x7] : List TLsp)).map TLsp.c))], 4⟩ (by omega) (Conv.keep [0, 1, 2, 5] [] [2, 3, 4, 5, 6, 7] rfl rfl (viewE_cons rfl rfl (viewE_cons rfl rfl (viewE_cons rfl rfl (viewE_cons rfl rfl (viewE_cons rfl rfl (viewE_cons rfl rfl viewE_nil)))))) rfl rfl) ⟨i7 + 1, false, (out5 ++ ([x7] : List TLsp)), (by omega), rfl, (by ((try simp only [List.length_append, List.length_cons, List.length_nil, decide_eq_true_eq, decide_eq_false_iff_not] at *) <;> first | omega | (rw [wrap64_of (by omega) (by omega)]; omega))), hL_12, rfl⟩
    ·rw [hb18]; try simp only [hb18, bb] at hL_12
     refine WK.condF rfl ?_
     refine WK.skip ?_
     refine WK.nil (QF.normal (hK15 _ ?_))
     refine WK.regx mixed ?_
     refine GX.m rfl ?_
     refine GX.pure (v' := .int .i64 ((i7 + 1 : Nat) : Int)) rfl rfl rfl rfl (congrArg (PVal.int .i64) (wrap_up hlt12 hlen_12)) ?_
     refine GX.m rfl ?_
     refine GX.done ?_
     refine WK.nil (QF.normal ?_)
     exact hagain_12 _ (b0.L.length - (i7 + 1)) ⟨[(2, .ptr 0 0), (3, .ptr 1 0), (4, .ptr 2 0), (5, .own 3 7 0 out5.length), (6, .bool false), (7, .int .i64 ((i7 + 1) : Int))], [(0, .box (TBase.c b0)), (1, .box (TLsp.c x1)), (2, .box [.int .i64 0, .int .i64 0, .nils, .bool false]), (3, .row 7 78 (out5.map TLsp.c))], 4⟩ (by omega) (Conv.keep [0, 1, 2, 3] [] [2, 3, 4, 5, 6, 7] rfl rfl (viewE_cons rfl rfl (viewE_cons rfl rfl (viewE_cons rfl rfl (viewE_cons rfl rfl (viewE_cons rfl rfl (viewE_cons rfl rfl viewE_nil)))))) rfl rfl) ⟨i7 + 1, false, out5, (by omega), rfl, (by omega), hL_12, rfl⟩
   ·rw [hb17]; try simp only [hb17, bb] at hL_12
    refine WK.condT rfl ?_
    refine WK.sr mixed ?_
    refine GX.m rfl ?_
    refine GX.q (.agg (TLsp.c x1)) ?_
    refine GX.step (v' := .own 4 7 0 (([x1] : List TLsp)).length) (heap' := [(0, .box (TBase.c b0)), (1, .box (TLsp.c x1)), (2, .box [.int .i64 0, .int .i64 0, .nils, .bool false]), (3, .row 7 78 (out5.map TLsp.c)), (4, .row 7 78 (([x1] : List TLsp).map TLsp.c))]) (next' := 5) rfl rfl rfl rfl rfl rfl rfl ?_
    refine GX.appT (c := TLsp.c) (L := out5) (X := ([x1] : List TLsp)) (heap' := [(0, .box (TBase.c b0)), (1, .box (TLsp.c x1)), (2, .box [.int .i64 0, .int .i64 0, .nils, .bool false]), (4, .row 7 78 (([x1] : List TLsp).map TLsp.c)), (5, .row 7 78 ((out5 ++ ([x1] : List TLsp)).map TLsp.c))]) (next' := 6) rfl rfl rfl rfl (elems_own rfl) (by (have h1 := SmB.nL (by assumption); (try simp only [List.length_append, List.length_cons, List.length_nil, decide_eq_true_eq, decide_eq_false_iff_not] at *); omega)) (by (have h1 := SmB.nL (by assumption); (try simp only [List.length_append, List.length_cons, List.length_nil, decide_eq_true_eq, decide_eq_false_iff_not] at *); omega)) rfl rfl rfl rfl ?_
    refine GX.m rfl ?_
    refine GX.done ?_
    refine WK.regx mixed ?_
    refine GX.m rfl ?_
    refine GX.done ?_
    refine WK.seq ?_
    refine WK.drawn mixed ?_
    refine RD.q (.ptr 0 2) ?_
    refine RD.q (.ro 7 (b0.L.map TLsp.c)) ?_
    refine RD.m rfl ?_
    refine RD.idxT (c := TLsp.c) (x := x7) rfl rfl rfl (Int.natCast_nonneg _) hx12 ?_
    refine RD.q (.rptr [.int .u64 x7.ID, .int .u32 x7.Seq, .int .i64 x7.Sum, .int .i64 x7.Bits, .ro 2 (x7.Things.map TThing.c)]) ?_
    refine RD.q (.int .u64 x7.ID) ?_
    refine RD.q (.ptr 1 2) ?_
    refine RD.q (.int .u64 x1.ID) ?_
    refine RD.q (.bool (!decide (x7.ID = x1.ID))) ?_
    refine RD.done rfl ?_
    rcases bool_two (decide (x7.ID = x1.ID)) with hb19 | hb19
    ·rw [hb19]; try simp only [hb19, bb] at hL_12
     refine WK.condT rfl ?_
     refine WK.regx mixed ?_
     refine GX.m rfl ?_
     refine GX.q (.ptr 0 2) ?_
     refine GX.q (.ro 7 (b0.L.map TLsp.c)) ?_
     refine GX.m rfl ?_
     refine GX.idxT (c := TLsp.c) (x := x7) rfl rfl rfl (Int.natCast_nonneg _) hx12 ?_
     refine GX.q (.agg (TLsp.c x7)) ?_
     refine GX.step (v' := .own 6 7 0 (([x7] : List TLsp)).length) (heap' := [(0, .box (TBase.c b0)), (1, .box (TLsp.c x1)), (2, .box [.int .i64 0, .int .i64 0, .nils, .bool false]), (4, .row 7 78 (([x1] : List TLsp).map TLsp.c)), (5, .row 7 78 ((out5 ++ ([x1] : List TLsp)).map TLsp.c)), (6, .row 7 78 (([x7] : List TLsp).map TLsp.c))]) (next' := 7) rfl rfl rfl rfl rfl rfl rfl ?_
     refine GX.appT (c := TLsp.c) (L := (out5 ++ ([x1] : List TLsp))) (X := ([x7] : List TLsp)) (heap' := [(0, .box (TBase.c b0)), (1, .box (TLsp.c x1)), (2, .box [.int .i64 0, .int .i64 0, .nils, .bool false]), (4, .row 7 78 (([x1] : List TLsp).map TLsp.c)), (6, .row 7 78 (([x7] : List TLsp).map TLsp.c)), (7, .row 7 78 (((out5 ++ ([x1] : List TLsp)) ++ ([x7] : List TLsp)).map TLsp.c))]) (next' := 8) rfl rfl rfl rfl (elems_own rfl) (by (have h1 := SmB.nL (by assumption); (try simp only [List.length_append, List.length_cons, List.length_nil, decide_eq_true_eq, decide_eq_false_iff_not] at *); omega)) (by (have h1 := SmB.nL (by assumption); (try simp only [List.length_append, List.length_cons, List.length_nil, decide_eq_true_eq, decide_eq_false_iff_not] at *); omega)) rfl rfl rfl rfl ?_
     refine GX.m rfl ?_
     refine GX.done ?_
     refine WK.nil (QF.normal (hK15 _ ?_))
     refine WK.regx mixed ?_
     refine GX.m rfl ?_
     refine GX.pure (v' := .int .i64 ((i7 + 1 : Nat) : Int)) rfl rfl rfl rfl (congrArg (PVal.int .i64) (wrap_up hlt12 hlen_12)) ?_
     refine GX.m rfl ?_
     refine GX.done ?_
     refine WK.nil (QF.normal ?_)
     exact hagain_12 _ (b0.L.length - (i7 + 1)) ⟨[(2, .ptr 0 0), (3, .ptr 1 0), (4, .ptr 2 0), (5, .own 3 7 0 ((out5 ++ ([x1] : List TLsp)) ++ ([x7] : List TLsp)).length), (6, .bool true), (7, .int .i64 ((i7 + 1) : Int))], [(0, .box (TBase.c b0)), (1, .box (TLsp.c x1)), (2, .box [.int .i64 0, .int .i64 0, .nils, .bool false]), (3, .row 7 78 (((out5 ++ ([x1] : List TLsp)) ++ ([x7] : List TLsp)).map TLsp.c))], 4⟩ (by omega) (Conv.keep [0, 1, 2, 7] [] [2, 3, 4, 5, 6, 7] rfl rfl (viewE_cons rfl rfl (viewE_cons rfl rfl (viewE_cons rfl rfl (viewE_cons rfl rfl (viewE_cons rfl rfl (viewE_cons rfl rfl viewE_nil)))))) rfl rfl) ⟨i7 + 1, true, ((out5 ++ ([x1] : List TLsp)) ++ ([x7] : List TLsp)), (by omega), rfl, (by ((try simp only [List.length_append, List.length_cons, List.length_nil, decide_eq_true_eq, decide_eq_false_iff_not] at *) <;> first | omega | (rw [wrap64_of (by omega) (by omega)]; omega))), hL_12, rfl⟩
    ·rw [hb19]; try simp only [hb19, bb] at hL_12
     refine WK.condF rfl ?_
     refine WK.skip ?_
     refine WK.nil (QF.normal (hK15 _ ?_))
     refine WK.regx mixed ?_
     refine GX.m rfl ?_
     refine GX.pure (v' := .int .i64 ((i7 + 1 : Nat) : Int)) rfl rfl rfl rfl (congrArg (PVal.int .i64) (wrap_up hlt12 hlen_12)) ?_
     refine GX.m rfl ?_
     refine GX.done ?_
     refine WK.nil (QF.normal ?_)
     exact hagain_12 _ (b0.L.length - (i7 + 1)) ⟨[(2, .ptr 0 0), (3, .ptr 1 0), (4, .ptr 2 0), (5, .own 3 7 0 (out5 ++ ([x1] : List TLsp)).length), (6, .bool true), (7, .int .i64 ((i7 + 1) : Int))], [(0, .box (TBase.c b0)), (1, .box (TLsp.c x1)), (2, .box [.int .i64 0, .int .i64 0, .nils, .bool false]), (3, .row 7 78 ((out5 ++ ([x1] : List TLsp)).map TLsp.c))], 4⟩ (by omega) (Conv.keep [0, 1, 2, 5] [] [2, 3, 4, 5, 6, 7] rfl rfl (viewE_cons rfl rfl (viewE_cons rfl rfl (viewE_cons rfl rfl (viewE_cons rfl rfl (viewE_cons rfl rfl (viewE_cons rfl rfl viewE_nil)))))) rfl rfl) ⟨i7 + 1, true, (out5 ++ ([x1] : List TLsp)), (by omega), rfl, (by ((try simp only [List.length_append, List.length_cons, List.length_nil, decide_eq_true_eq, decide_eq_false_iff_not] at *) <;> first | omega | (rw [wrap64_of (by omega) (by omega)]; omega))), hL_12, rfl⟩
  ·rw [hb16]; try simp only [hb16, bb] at hL_12
   iterate 9 refine RD.skip rfl rfl ?_
   refine RD.q (.bool false) ?_
   refine RD.done rfl ?_
   refine WK.condF rfl ?_
   refine WK.skip ?_
   refine WK.seq ?_
   refine WK.drawn mixed ?_
   refine RD.q (.ptr 0 2) ?_
   refine RD.q (.ro 7 (b0.L.map TLsp.c)) ?_
   refine RD.m rfl ?_
   refine RD.idxT (c := TLsp.c) (x := x7) rfl rfl rfl (Int.natCast_nonneg _) hx12 ?_
   refine RD.q (.rptr [.int .u64 x7.ID, .int .u32 x7.Seq, .int .i64 x7.Sum, .int .i64 x7.Bits, .ro 2 (x7.Things.map TThing.c)]) ?_
   refine RD.q (.int .u64 x7.ID) ?_
   refine RD.q (.ptr 1 2) ?_
   refine RD.q (.int .u64 x1.ID) ?_
   refine RD.q (.bool (!decide (x7.ID = x1.ID))) ?_
   refine RD.done rfl ?_
   rcases bool_two (decide (x7.ID = x1.ID)) with hb20 | hb20
   ·rw [hb20]; try simp only [hb20, bb] at hL_12
    refine WK.condT rfl ?_
    refine WK.regx mixed ?_
    refine GX.m rfl ?_
    refine GX.q (.ptr 0 2) ?_
    refine GX.q (.ro 7 (b0.L.map TLsp.c)) ?_
    refine GX.m rfl ?_
    refine GX.idxT (c := TLsp.c) (x := x7) rfl rfl rfl (Int.natCast_nonneg _) hx12 ?_
    refine GX.q (.agg (TLsp.c x7)) ?_
    refine GX.step (v' := .own 4 7 0 (([x7] : List TLsp)).length) (heap' := [(0, .box (TBase.c b0)), (1, .box (TLsp.c x1)), (2, .box [.int .i64 0, .int .i64 0, .nils, .bool false]), (3, .row 7 78 (out5.map TLsp.c)), (4, .row 7 78 (([x7] : List TLsp).map TLsp.c))]) (next' := 5) rfl rfl rfl rfl rfl rfl rfl ?_
    refine GX.appT (c := TLsp.c) (L := out5) (X := ([x7] : List TLsp)) (heap' := [(0, .box (TBase.c b0)), (1, .box (TLsp.c x1)), (2, .box [.int .i64 0, .int .i64 0, .nils, .bool false]), (4, .row 7 78 (([x7] : List TLsp).map TLsp.c)), (5, .row 7 78 ((out5 ++ ([x7] : List TLsp)).map TLsp.c))]) (next' := 6) rfl rfl rfl rfl (elems_own rfl) (by (have h1 := SmB.nL (by assumption); (try simp only [List.length_append, List.length_cons, List.length_nil, decide_eq_true_eq, decide_eq_false_iff_not] at *); omega)) (by (have h1 := SmB.nL (by assumption); (try simp only [List.length_append, List.length_cons, List.length_nil, decide_eq_true_eq, decide_eq_false_iff_not] at *); omega)) rfl rfl rfl rfl ?_
    refine GX.m rfl ?_
    refine GX.done ?_
    refine WK.nil (QF.normal (hK15 _ ?_))
    refine WK.regx mixed ?_
    refine GX.m rfl ?_
    refine GX.pure (v' := .int .i64 ((i7 + 1 : Nat) : Int)) rfl rfl rfl rfl (congrArg (PVal.int .i64) (wrap_up hlt12 hlen_12)) ?_
    refine GX.m rfl ?_
    refine GX.done ?_
    refine WK.nil (QF.normal ?_)
    exact hagain_12 _ (b0.L.length - (i7 + 1)) ⟨[(2, .ptr 0 0), (3, .ptr 1 0), (4, .ptr 2 0), (5, .own 3 7 0 (out5 ++ ([x7] : List TLsp)).length), (6, .bool true), (7, .int .i64 ((i7 + 1) : Int))], [(0, .box (TBase.c b0)), (1, .box (TLsp.c x1)), (2, .box [.int .i64 0, .int .i64 0, .nils, .bool false]), (3, .row 7 78 ((out5 ++ ([x7] : List TLsp)).map TLsp.c))], 4⟩ (by omega) (Conv.keep [0, 1, 2, 5] [] [2, 3, 4, 5, 6, 7] rfl rfl (viewE_cons rfl rfl (viewE_cons rfl rfl (viewE_cons rfl rfl (viewE_cons rfl rfl (viewE_cons rfl rfl (viewE_cons rfl rfl viewE_nil)))))) rfl rfl) ⟨i7 + 1, true, (out5 ++ ([x7] : List TLsp)), (by omega), rfl, (by ((try simp only [List.length_append, List.length_cons, List.length_nil, decide_eq_true_eq, decide_eq_false_iff_not] at *) <;> first | omega | (rw [wrap64_of (by omega) (by omega)]; omega))), hL_12, rfl⟩
   ·rw [hb20]; try simp only [hb20, bb] at hL_12
    refine WK.condF rfl ?_
    refine WK.skip ?_
    refine WK.nil (QF.normal (hK15 _ ?_))
    refine WK.regx mixed ?_
    refine GX.m rfl ?_
    refine GX.pure (v' := .int .i64 ((i7 + 1 : Nat) : Int)) rfl rfl rfl rfl (congrArg (PVal.int .i64) (wrap_up hlt12 hlen_12)) ?_
    refine GX.m rfl ?_
    refine GX.done ?_
    refine WK.nil (QF.normal ?_)
    exact hagain_12 _ (b0.L.length - (i7 + 1)) ⟨[(2, .ptr 0 0), (3, .ptr 1 0), (4, .ptr 2 0), (5, .own 3 7 0 out5.length), (6, .bool true), (7, .int .i64 ((i7 + 1) : Int))], [(0, .box (TBase.c b0)), (1, .box (TLsp.c x1)), (2, .box [.int .i64 0, .int .i64 0, .nils, .bool false]), (3, .row 7 78 (out5.map TLsp.c))], 4⟩ (by omega) (Conv.keep [0, 1, 2, 3] [] [2, 3, 4, 5, 6, 7] rfl rfl (viewE_cons rfl rfl (viewE_cons rfl rfl (viewE_cons rfl rfl (viewE_cons rfl rfl (viewE_cons rfl rfl (viewE_cons rfl rfl viewE_nil)))))) rfl rfl) ⟨i7 + 1, true, out5, (by omega), rfl, (by omega), hL_12, rfl⟩

theorem f56_ok (x0 : TLsp) (R : TEntry) (hR : F56_crossroadsref23_Entry x0 = R) : FnOk Try.prog 56 [.agg (TLsp.c x0)] [] 0 (.agg (TEntry.c R)) [] 0 := by
 refine FnOk.wk i56 rfl rfl ?_
 unfold F56_crossroadsref23_Entry at hR
 change WK _ _ _ [ac56] _ ⟨[(0, .agg (TLsp.c x0))], [], 0⟩
 unfold ac56
 refine WK.sr mixed ?_
 refine GX.step (v' := .ptr 0 0) (heap' := [(0, .box (TLsp.c x0))]) (next' := 1) rfl rfl rfl rfl rfl rfl rfl ?_
 refine GX.step (v' := .ptr 1 0) (heap' := [(0, .box (TLsp.c x0)), (1, .box [.int .i64 0, .int .u64 0, .int .u32 0, .int .i64 0])]) (next' := 2) rfl rfl rfl rfl rfl rfl rfl ?_
 refine GX.done ?_
 refine WK.sr mixed ?_
 refine GX.q (.ptr 0 1) ?_
 refine GX.q (.int .i64 x0.Life) ?_
 refine GX.q (.ptr 0 2) ?_
 refine GX.q (.int .u64 x0.ID) ?_
 refine GX.q (.ptr 0 3) ?_
 refine GX.q (.int .u32 x0.Seq) ?_
 refine GX.q (.ptr 0 4) ?_
 refine GX.q (.int .i64 x0.Sum) ?_
 refine GX.q (.agg [.int .i64 x0.Life, .int .u64 x0.ID, .int .u32 x0.Seq, .int .i64 x0.Sum]) ?_
 refine GX.step0 (heap' := [(0, .box (TLsp.c x0)), (1, .box [.int .i64 x0.Life, .int .u64 x0.ID, .int .u32 x0.Seq, .int .i64 x0.Sum])]) (next' := 2) rfl rfl rfl rfl rfl ?_
 refine GX.done ?_
 refine WK.ret ?_
 subst hR
 exact RetQ.fr [] (.inr rfl) rfl rfl rfl rfl

theorem f29_ok (b0 : TBase) (x1 : TLsp) (hp0 : SmB b0) (hp1 : b0.Max ≤ 1000) (hp2 : x1.Things.length ≤ 100) (R : TBase × Int × Int) (hR : F29_crossroadsref23_Put b0 x1 = R) : FnOk Try.prog 29 [.agg (TBase.c b0), .agg (TLsp.c x1)] [] 0 (.tup [.agg (TBase.c R.1), .int .i64 R.2.1, .int .i64 R.2.2]) [] 0 := by
 refine FnOk.wk i29 rfl rfl ?_
 unfold F29_crossroadsref23_Put at hR
 change WK _ _ _ [ac29] _ ⟨[(0, .agg (TBase.c b0)), (1, .agg (TLsp.c x1))], [], 0⟩
 unfold ac29
 refine WK.sr mixed ?_
 refine GX.step (v' := .ptr 0 0) (heap' := [(0, .box (TBase.c b0))]) (next' := 1) rfl rfl rfl rfl rfl rfl rfl ?_
 refine GX.step (v' := .ptr 1 0) (heap' := [(0, .box (TBase.c b0)), (1, .box (TLsp.c x1))]) (next' := 2) rfl rfl rfl rfl rfl rfl rfl ?_
 refine GX.step (v' := .ptr 2 0) (heap' := [(0, .box (TBase.c b0)), (1, .box (TLsp.c x1)), (2, .box [.int .i64 0, .int .i64 0, .nils, .bool false])]) (next' := 3) rfl rfl rfl rfl rfl rfl rfl ?_
 iterate 2 refine GX.m rfl ?_
 refine GX.done ?_
 refine WK.seq ?_
 refine WK.sr mixed ?_
 refine GX.q (.agg (TLsp.c x1)) ?_
 refine GX.q (.ptr 0 0) ?_
 refine GX.q (.int .i64 b0.Level) ?_
 generalize hc13 : F53_crossroadsref23_mayLsp x1 b0.Level = c13 at hR
 try dsimp only at hR
 refine GX.callp (r := .bool c13) rfl rfl rfl (f53_ok x1 b0.Level (by omega) _ hc13) rfl rfl ?_
 refine GX.q (.bool (!c13)) ?_
 refine GX.done ?_
 rcases bool_two (c13) with hb1 | hb1
 ·rw [hb1]; try simp only [hb1, bb] at hR
  refine WK.condT rfl ?_
  refine WK.sr mixed ?_
  refine GX.q (.agg (TBase.c b0)) ?_
  refine GX.step0 (heap' := [(0, .box (TBase.c b0)), (1, .box (TLsp.c x1)), (2, .box (TBase.c b0))]) (next' := 3) rfl rfl rfl rfl rfl ?_
  iterate 2 refine GX.m rfl ?_
  refine GX.done ?_
  refine WK.ret ?_
  subst hR
  exact RetQ.fr [] (.inr rfl) rfl rfl rfl rfl
 ·rw [hb1]; try simp only [hb1, bb] at hR
  refine WK.condF rfl ?_
  refine WK.skip ?_
  refine WK.sr mixed ?_
  refine GX.q (.agg (TBase.c b0)) ?_
  refine GX.q (.ptr 1 2) ?_
  refine GX.q (.int .u64 x1.ID) ?_
  generalize hc20 : F54_crossroadsref23_Find b0 x1.ID = c20 at hR
  have hpo0_c20 := post_rFind b0 x1.ID (by omega); rw [hc20] at hpo0_c20
  obtain ⟨c20a, c20b⟩ := c20; try dsimp only at hR; try dsimp only at hpo0_c20
  refine GX.callp (r := .tup [.agg [.int .i64 c20a.Level, .int .i64 c20a.Life, .int .u64 c20a.ID, .int .u32 c20a.Seq, .int .i64 c20a.Sum, .int .i64 c20a.Bits, .ro 2 (c20a.Things.map TThing.c)], .bool c20b]) rfl rfl rfl (f54_ok b0 x1.ID _ hc20) rfl rfl ?_
  refine GX.m rfl ?_
  refine GX.q (.agg [.int .i64 c20a.Level, .int .i64 c20a.Life, .int .u64 c20a.ID, .int .u32 c20a.Seq, .int .i64 c20a.Sum, .int .i64 c20a.Bits, .ro 2 (c20a.Things.map TThing.c)]) ?_
  refine GX.q (.bool c20b) ?_
  refine GX.step (v' := .ptr 3 0) (heap' := [(0, .box (TBase.c b0)), (1, .box (TLsp.c x1)), (2, .box [.int .i64 0, .int .i64 0, .nils, .bool false]), (3, .box [.int .i64 0, .int .i64 0, .int .u64 0, .int .u32 0, .int .i64 0, .int .i64 0, .nils])]) (next' := 4) rfl rfl rfl rfl rfl rfl rfl ?_
  refine GX.step0 (heap' := [(0, .box (TBase.c b0)), (1, .box (TLsp.c x1)), (2, .box [.int .i64 0, .int .i64 0, .nils, .bool false]), (3, .box (TLsp.c c20a))]) (next' := 4) rfl rfl rfl rfl rfl ?_
  refine GX.m rfl ?_
  refine GX.done ?_
  refine WK.seq ?_
  refine WK.sr mixed ?_
  refine GX.m rfl ?_
  refine GX.q (.bool (!c20b)) ?_
  refine GX.done ?_
  rcases bool_two (c20b) with hb2 | hb2
  ·rw [hb2]; try simp only [hb2, bb] at hR
   refine WK.condT rfl ?_
   refine WK.seq ?_
   refine WK.sr mixed ?_
   refine GX.q (.ptr 0 2) ?_
   refine GX.q (.ro 7 (b0.L.map TLsp.c)) ?_
   refine GX.pure (v' := .int .i64 (b0.L.length : Int)) rfl rfl rfl rfl (len_map _ _) ?_
   refine GX.q (.ptr 0 1) ?_
   refine GX.q (.int .i64 b0.Max) ?_
   refine GX.q (.bool (decide (b0.Max ≤ (b0.L.length : Int)))) ?_
   refine GX.done ?_
   rcases bool_two (decide (b0.Max ≤ (b0.L.length : Int))) with hb3 | hb3
   ·rw [hb3]; try simp only [hb3, bb] at hR
    refine WK.condF rfl ?_
    refine WK.skip ?_
    refine WK.sr mixed ?_
    refine GX.q (.agg (TBase.c b0)) ?_
    refine GX.q (.agg (TLsp.c x1)) ?_
    generalize hc35 : F55_crossroadsref23_into b0 x1 = c35 at hR
    try dsimp only at hR
    refine GX.callp (r := .agg [.int .i64 c35.Level, .int .i64 c35.Max, .ro 7 (c35.L.map TLsp.c), .bool c35.Over]) rfl rfl rfl (f55_ok b0 x1 (by omega) _ hc35) rfl rfl ?_
    refine GX.step0 (heap' := [(0, .box (TBase.c b0)), (1, .box (TLsp.c x1)), (2, .box (TBase.c c35)), (3, .box (TLsp.c c20a))]) (next' := 4) rfl rfl rfl rfl rfl ?_
    iterate 2 refine GX.m rfl ?_
    refine GX.done ?_
    refine WK.ret ?_
    subst hR
    exact RetQ.fr [] (.inr rfl) rfl rfl rfl rfl
   ·rw [hb3]; try simp only [hb3, bb] at hR
    refine WK.condT rfl ?_
    refine WK.sr mixed ?_
    refine GX.q (.ptr 0 3) ?_
    refine GX.step0 (heap' := [(0, .box [.int .i64 b0.Level, .int .i64 b0.Max, .ro 7 (b0.L.map TLsp.c), .bool true]), (1, .box (TLsp.c x1)), (2, .box [.int .i64 0, .int .i64 0, .nils, .bool false]), (3, .box (TLsp.c c20a))]) (next' := 4) rfl rfl rfl rfl rfl ?_
    refine GX.done ?_
    refine WK.sr mixed ?_
    refine GX.q (.agg [.int .i64 b0.Level, .int .i64 b0.Max, .ro 7 (b0.L.map TLsp.c), .bool true]) ?_
    refine GX.step0 (heap' := [(0, .box [.int .i64 b0.Level, .int .i64 b0.Max, .ro 7 (b0.L.map TLsp.c), .bool true]), (1, .box (TLsp.c x1)), (2, .box [.int .i64 b0.Level, .int .i64 b0.Max, .ro 7 (b0.L.map TLsp.c), .bool true]), (3, .box (TLsp.c c20a))]) (next' := 4) rfl rfl rfl rfl rfl ?_
    iterate 2 refine GX.m rfl ?_
    refine GX.done ?_
    refine WK.ret ?_
    subst hR
    exact RetQ.fr [] (.inr rfl) rfl rfl rfl rfl
  ·rw [hb2]; try simp only [hb2, bb] at hR
   refine WK.condF rfl ?_
   refine WK.skip ?_
   refine WK.seq ?_
   refine WK.drawn mixed ?_
   refine RD.q (.agg (TLsp.c x1)) ?_
   generalize hc37 : F56_crossroadsref23_Entry x1 = c37 at hR
   try dsimp only at hR
   refine RD.callp (r := .agg [.int .i64 c37.Life, .int .u64 c37.ID, .int .u32 c37.Seq, .int .i64 c37.Sum]) rfl rfl rfl (f56_ok x1 _ hc37) rfl rfl ?_
   refine RD.q (.agg (TLsp.c c20a)) ?_
   generalize hc39 : F56_crossroadsref23_Entry c20a = c39 at hR
   try dsimp only at hR
   refine RD.callp (r := .agg [.int .i64 c39.Life, .int .u64 c39.ID, .int .u32 c39.Seq, .int .i64 c39.Sum]) rfl rfl rfl (f56_ok c20a _ hc39) rfl rfl ?_
   generalize hc40 : F9_crossroadsref23_Compare c37 c39 = c40 at hR
   try dsimp only at hR
   refine RD.callp (r := .int .i64 c40) rfl rfl rfl (f9_ok c37 c39 _ hc40) rfl rfl ?_
   refine RD.m rfl ?_
   refine RD.done rfl ?_
   refine WK.seq ?_
   refine WK.sr mixed ?_
   refine GX.m rfl ?_
   refine GX.q (.bool (decide (0 < c40))) ?_
   refine GX.done ?_
   rcases bool_two (decide (0 < c40)) with hb4 | hb4
   ·rw [hb4]; try simp only [hb4, bb] at hR
    refine WK.condF rfl ?_
    refine WK.skip ?_
    refine WK.sr mixed ?_
    refine GX.q (.agg (TBase.c b0)) ?_
    refine GX.m rfl ?_
    refine GX.q (.int .i64 (IntKind.i64.wrap (c40 + 1))) ?_
    refine GX.step0 (heap' := [(0, .box (TBase.c b0)), (1, .box (TLsp.c x1)), (2, .box (TBase.c b0)), (3, .box (TLsp.c c20a))]) (next' := 4) rfl rfl rfl rfl rfl ?_
    iterate 2 refine GX.m rfl ?_
    refine GX.done ?_
    refine WK.ret ?_
    subst hR
    exact RetQ.fr [] (.inr rfl) rfl rfl rfl rfl
   ·rw [hb4]; try simp only [hb4, bb] at hR
    refine WK.condT rfl ?_
    refine WK.sr mixed ?_
    refine GX.q (.agg (TBase.c b0)) ?_
    refine GX.q (.agg (TLsp.c x1)) ?_
    generalize hc45 : F55_crossroadsref23_into b0 x1 = c45 at hR
    try dsimp only at hR
    refine GX.callp (r := .agg [.int .i64 c45.Level, .int .i64 c45.Max, .ro 7 (c45.L.map TLsp.c), .bool c45.Over]) rfl rfl rfl (f55_ok b0 x1 (by omega) _ hc45) rfl rfl ?_
    refine GX.step0 (heap' := [(0, .box (TBase.c b0)), (1, .box (TLsp.c x1)), (2, .box (TBase.c c45)), (3, .box (TLsp.c c20a))]) (next' := 4) rfl rfl rfl rfl rfl ?_
    iterate 2 refine GX.m rfl ?_
    refine GX.done ?_
    refine WK.ret ?_
    subst hR
    exact RetQ.fr [] (.inr rfl) rfl rfl rfl rfl

theorem f57_ok (x0 : TList) (id1 : Int) (R : TEntry × Bool) (hR : F57_crossroadsref23_told x0 id1 = R) : FnOk Try.prog 57 [.agg (TList.c x0), .int .u64 id1] [] 0 (.tup [.agg (TEntry.c R.1), .bool R.2]) [] 0 := by
 refine FnOk.wk i57 rfl rfl ?_
 unfold F57_crossroadsref23_told at hR
 change WK _ _ _ [ac57] _ ⟨[(0, .agg (TList.c x0)), (1, .int .u64 id1)], [], 0⟩
 unfold ac57
 refine WK.sr mixed ?_
 refine GX.step (v' := .ptr 0 0) (heap' := [(0, .box (TList.c x0))]) (next' := 1) rfl rfl rfl rfl rfl rfl rfl ?_
 refine GX.step (v' := .ptr 1 0) (heap' := [(0, .box (TList.c x0)), (1, .box [.int .i64 0, .int .u64 0, .int .u32 0, .int .i64 0])]) (next' := 2) rfl rfl rfl rfl rfl rfl rfl ?_
 refine GX.m rfl ?_
 refine GX.done ?_
 refine WK.seq ?_
 refine WK.sr mixed ?_
 refine GX.m rfl ?_
 refine GX.done ?_
 refine WK.lenb (id := 0) (j := 5) rfl rfl (by simp) (fun hlen_1 => ?_)
 rw [List.length_map] at hlen_1
 generalize hZ_1 : F57_crossroadsref23_told_l1 id1 x0.L = Z_1 at hR
 refine WK.forK (fun k s => ∃ (i6 : Nat), i6 ≤ x0.L.length ∧ k = x0.L.length - i6 ∧ F57_crossroadsref23_told_l1 id1 (x0.L.drop i6) = Z_1 ∧ s = ⟨[(1, .int .u64 id1), (2, .ptr 0 0), (4, .ptr 1 0), (6, .int .i64 (i6 : Int))], [(0, .box (TList.c x0)), (1, .box [.int .i64 0, .int .u64 0, .int .u32 0, .int .i64 0])], 2⟩) x0.L.length ⟨⟨[(1, .int .u64 id1), (2, .ptr 0 0), (4, .ptr 1 0), (6, .int .i64 (0 : Int))], [(0, .box (TList.c x0)), (1, .box [.int .i64 0, .int .u64 0, .int .u32 0, .int .i64 0])], 2⟩, Conv.keep [0, 1] [] [1, 2, 4, 6] rfl rfl (viewE_cons rfl rfl (viewE_cons rfl rfl (viewE_cons rfl rfl (viewE_cons rfl rfl viewE_nil)))) rfl rfl, 0, (by omega), rfl, hZ_1, rfl⟩ ?_
 rintro _ _ ⟨i6, hi_1, rfl, hL_1, rfl⟩ again_1 out_1 Q_1 hagain_1 hout_1 hQ_1
 refine WK.seq ?_
 refine WK.sr mixed ?_
 refine GX.m rfl ?_
 refine GX.q (.ptr 0 5) ?_
 refine GX.q (.ro 4 (x0.L.map TEntry.c)) ?_
 refine GX.pure (v' := .int .i64 (x0.L.length : Int)) rfl rfl rfl rfl (len_map _ _) ?_
 refine GX.q (.bool (decide ((i6 : Int) < (x0.L.length : Int)))) ?_
 refine GX.done ?_
 rcases bool_two (decide ((i6 : Int) < (x0.L.length : Int))) with hb2 | hb2
 ·rw [hb2]
  rw [drop_end hb2, F57_crossroadsref23_told_l1] at hL_1
  refine WK.condF rfl ?_
  refine WK.exit ?_
  refine QF.exit (hout_1 _ ?_)
  subst hL_1
  try dsimp only [cond_true, cond_false] at hR
  refine WK.sr mixed ?_
  refine GX.q (.agg [.int .i64 0, .int .u64 0, .int .u32 0, .int .i64 0]) ?_
  refine GX.step0 (heap' := [(0, .box (TList.c x0)), (1, .box [.int .i64 0, .int .u64 0, .int .u32 0, .int .i64 0])]) (next' := 2) rfl rfl rfl rfl rfl ?_
  refine GX.m rfl ?_
  refine GX.done ?_
  refine WK.ret ?_
  subst hR
  exact RetQ.fr [] (.inr rfl) rfl rfl rfl rfl
 ·rw [hb2]
  obtain ⟨x6, hx1, hd1, hlt1⟩ := drop_more hb2
  rw [hd1, F57_crossroadsref23_told_l1] at hL_1
  refine WK.condT rfl ?_
  refine WK.skip ?_
  refine WK.seq ?_
  refine WK.blockK (fun _ hK3 => ?_)
  refine WK.sr mixed ?_
  refine GX.q (.ptr 0 5) ?_
  refine GX.q (.ro 4 (x0.L.map TEntry.c)) ?_
  refine GX.m rfl ?_
  refine GX.idxT (c := TEntry.c) (x := x6) rfl rfl rfl (Int.natCast_nonneg _) hx1 ?_
  refine GX.q (.rptr [.int .u64 x6.ID, .int .u32 x6.Seq, .int .i64 x6.Sum]) ?_
  refine GX.q (.int .u64 x6.ID) ?_
  refine GX.m rfl ?_
  refine GX.q (.bool (decide (x6.ID = id1))) ?_
  refine GX.done ?_
  rcases bool_two (decide (x6.ID = id1)) with hb4 | hb4
  ·rw [hb4]; try simp only [hb4, bb] at hL_1
   refine WK.condF rfl ?_
   refine WK.skip ?_
   refine WK.nil (QF.normal (hK3 _ ?_))
   refine WK.regx mixed ?_
   refine GX.m rfl ?_
   refine GX.pure (v' := .int .i64 ((i6 + 1 : Nat) : Int)) rfl rfl rfl rfl (congrArg (PVal.int .i64) (wrap_up hlt1 hlen_1)) ?_
   refine GX.m rfl ?_
   refine GX.done ?_
   refine WK.nil (QF.normal ?_)
   exact hagain_1 _ (x0.L.length - (i6 + 1)) ⟨[(1, .int .u64 id1), (2, .ptr 0 0), (4, .ptr 1 0), (6, .int .i64 ((i6 + 1) : Int))], [(0, .box (TList.c x0)), (1, .box [.int .i64 0, .int .u64 0, .int .u32 0, .int .i64 0])], 2⟩ (by omega) (Conv.keep [0, 1] [] [1, 2, 4, 6] rfl rfl (viewE_cons rfl rfl (viewE_cons rfl rfl (viewE_cons rfl rfl (viewE_cons rfl rfl viewE_nil)))) rfl rfl) ⟨i6 + 1, (by omega), rfl, hL_1, rfl⟩
  ·rw [hb4]; try simp only [hb4, bb] at hL_1
   refine WK.condT rfl ?_
   refine WK.sr mixed ?_
   refine GX.q (.ptr 0 5) ?_
   refine GX.q (.ro 4 (x0.L.map TEntry.c)) ?_
   refine GX.m rfl ?_
   refine GX.idxT (c := TEntry.c) (x := x6) rfl rfl rfl (Int.natCast_nonneg _) hx1 ?_
   refine GX.q (.agg (TEntry.c x6)) ?_
   refine GX.step0 (heap' := [(0, .box (TList.c x0)), (1, .box (TEntry.c x6))]) (next' := 2) rfl rfl rfl rfl rfl ?_
   refine GX.m rfl ?_
   refine GX.done ?_
   refine WK.ret ?_
   refine QF.ret ?_
   refine QF.ret (hQ_1 _ _ ?_)
   subst hL_1
   subst hR
   exact RetQ.fr [] (.inr rfl) rfl rfl rfl rfl

theorem f31_ok (b0 : TBase) (x1 : TList) (hp0 : SmB b0) (hp1 : x1.L.length ≤ 1000) (R : (List Int) × (List TEntry)) (hR : F31_crossroadsref23_Differ b0 x1 = R) : FnOk Try.prog 31 [.agg (TBase.c b0), .agg (TList.c x1)] [] 0 (.tup [.ro 1 (R.1.map c_u64), .ro 4 (R.2.map TEntry.c)]) [] 0 := by
 refine FnOk.wk i31 rfl rfl ?_
 unfold F31_crossroadsref23_Differ at hR
 change WK _ _ _ [ac31] _ ⟨[(0, .agg (TBase.c b0)), (1, .agg (TList.c x1))], [], 0⟩
 unfold ac31
 refine WK.sr mixed ?_
 refine GX.step (v' := .ptr 0 0) (heap' := [(0, .box (TBase.c b0))]) (next' := 1) rfl rfl rfl rfl rfl rfl rfl ?_
 refine GX.step (v' := .ptr 1 0) (heap' := [(0, .box (TBase.c b0)), (1, .box (TList.c x1))]) (next' := 2) rfl rfl rfl rfl rfl rfl rfl ?_
 iterate 2 refine GX.m rfl ?_
 refine GX.done ?_
 refine WK.sr mixed ?_
 refine GX.step (v' := .own 2 1 0 (([] : List Int)).length) (heap' := [(0, .box (TBase.c b0)), (1, .box (TList.c x1)), (2, .row 1 22 (([] : List Int).map c_u64))]) (next' := 3) rfl rfl rfl rfl rfl rfl rfl ?_
 refine GX.step (v' := .own 3 4 0 (([] : List TEntry)).length) (heap' := [(0, .box (TBase.c b0)), (1, .box (TList.c x1)), (2, .row 1 22 (([] : List Int).map c_u64)), (3, .row 4 28 (([] : List TEntry).map TEntry.c))]) (next' := 4) rfl rfl rfl rfl rfl rfl rfl ?_
 iterate 2 refine GX.m rfl ?_
 refine GX.done ?_
 refine WK.seq ?_
 refine WK.sr mixed ?_
 refine GX.m rfl ?_
 refine GX.done ?_
 refine WK.lenb (id := 0) (j := 2) rfl rfl (by simp) (fun hlen_21 => ?_)
 rw [List.length_map] at hlen_21
 generalize hZ_21 : F31_crossroadsref23_Differ_l2 x1 ([] : List Int) b0.L = Z_21 at hR
 refine WK.forK (fun k s => ∃ (i8 : Nat) (send6 : List Int), i8 ≤ b0.L.length ∧ k = b0.L.length - i8 ∧ send6.length ≤ i8 + 0 ∧ F31_crossroadsref23_Differ_l2 x1 send6 (b0.L.drop i8) = Z_21 ∧ s = ⟨[(2, .ptr 0 0), (3, .ptr 1 0), (6, .own 2 1 0 send6.length), (7, .own 3 4 0 (([] : List TEntry)).length), (8, .int .i64 (i8 : Int))], [(0, .box (TBase.c b0)), (1, .box (TList.c x1)), (2, .row 1 22 (send6.map c_u64)), (3, .row 4 28 (([] : List TEntry).map TEntry.c))], 4⟩) b0.L.length ⟨⟨[(2, .ptr 0 0), (3, .ptr 1 0), (6, .own 2 1 0 ([] : List Int).length), (7, .own 3 4 0 (([] : List TEntry)).length), (8, .int .i64 (0 : Int))], [(0, .box (TBase.c b0)), (1, .box (TList.c x1)), (2, .row 1 22 (([] : List Int).map c_u64)), (3, .row 4 28 (([] : List TEntry).map TEntry.c))], 4⟩, Conv.keep [0, 1, 2, 3] [] [2, 3, 6, 7, 8] rfl rfl (viewE_cons rfl rfl (viewE_cons rfl rfl (viewE_cons rfl rfl (viewE_cons rfl rfl (viewE_cons rfl rfl viewE_nil))))) rfl rfl, 0, ([] : List Int), (by omega), rfl, (by ((try simp only [List.length_append, List.length_cons, List.length_nil, decide_eq_true_eq, decide_eq_false_iff_not] at *) <;> first | omega | (rw [wrap64_of (by omega) (by omega)]; omega))), hZ_21, rfl⟩ ?_
 rintro _ _ ⟨i8, send6, hi_21, rfl, hinv21_send6, hL_21, rfl⟩ again_21 out_21 Q_21 hagain_21 hout_21 hQ_21
 refine WK.seq ?_
 refine WK.sr mixed ?_
 refine GX.m rfl ?_
 refine GX.q (.ptr 0 2) ?_
 refine GX.q (.ro 7 (b0.L.map TLsp.c)) ?_
 refine GX.pure (v' := .int .i64 (b0.L.length : Int)) rfl rfl rfl rfl (len_map _ _) ?_
 refine GX.q (.bool (decide ((i8 : Int) < (b0.L.length : Int)))) ?_
 refine GX.done ?_
 rcases bool_two (decide ((i8 : Int) < (b0.L.length : Int))) with hb22 | hb22
 ·rw [hb22]
  rw [drop_end hb22, F31_crossroadsref23_Differ_l2] at hL_21
  refine WK.condF rfl ?_
  refine WK.exit ?_
  refine QF.exit (hout_21 _ ?_)
  subst hL_21
  try dsimp only [cond_true, cond_false] at hR
  refine WK.seq ?_
  refine WK.sr mixed ?_
  refine GX.m rfl ?_
  refine GX.done ?_
  refine WK.lenb (id := 1) (j := 5) rfl rfl (by simp) (fun hlen_29 => ?_)
  rw [List.length_map] at hlen_29
  generalize hZ_29 : F31_crossroadsref23_Differ_l1 b0 x1 ([] : List TEntry) 0 x1.L = Z_29 at hR
  refine WK.forK (fun k s => ∃ (i12 : Nat) (ask7 : List TEntry), i12 ≤ x1.L.length ∧ k = x1.L.length - i12 ∧ ask7.length ≤ i12 + 0 ∧ F31_crossroadsref23_Differ_l1 b0 x1 ask7 i12 (x1.L.drop i12) = Z_29 ∧ s = ⟨[(2, .ptr 0 0), (3, .ptr 1 0), (6, .own 2 1 0 send6.length), (7, .own 3 4 0 ask7.length), (12, .int .i64 (i12 : Int))], [(0, .box (TBase.c b0)), (1, .box (TList.c x1)), (2, .row 1 22 (send6.map c_u64)), (3, .row 4 28 (ask7.map TEntry.c))], 4⟩) x1.L.length ⟨⟨[(2, .ptr 0 0), (3, .ptr 1 0), (6, .own 2 1 0 send6.length), (7, .own 3 4 0 ([] : List TEntry).length), (12, .int .i64 (0 : Int))], [(0, .box (TBase.c b0)), (1, .box (TList.c x1)), (2, .row 1 22 (send6.map c_u64)), (3, .row 4 28 (([] : List TEntry).map TEntry.c))], 4⟩, Conv.keep [0, 1, 2, 3] [] [2, 3, 6, 7, 12] rfl rfl (viewE_cons rfl rfl (viewE_cons rfl rfl (viewE_cons rfl rfl (viewE_cons rfl rfl (viewE_cons rfl rfl viewE_nil))))) rfl rfl, 0, ([] : List TEntry), (by omega), rfl, (by ((try simp only [List.length_append, List.length_cons, List.length_nil, decide_eq_true_eq, decide_eq_false_iff_not] at *) <;> first | omega | (rw [wrap64_of (by omega) (by omega)]; omega))), hZ_29, rfl⟩ ?_
  rintro _ _ ⟨i12, ask7, hi_29, rfl, hinv29_ask7, hL_29, rfl⟩ again_29 out_29 Q_29 hagain_29 hout_29 hQ_29
  refine WK.seq ?_
  refine WK.sr mixed ?_
  refine GX.m rfl ?_
  refine GX.q (.ptr 1 5) ?_
  refine GX.q (.ro 4 (x1.L.map TEntry.c)) ?_
  refine GX.pure (v' := .int .i64 (x1.L.length : Int)) rfl rfl rfl rfl (len_map _ _) ?_
  refine GX.q (.bool (decide ((i12 : Int) < (x1.L.length : Int)))) ?_
  refine GX.done ?_
  rcases bool_two (decide ((i12 : Int) < (x1.L.length : Int))) with hb30 | hb30
  ·rw [hb30]
   rw [drop_end hb30, F31_crossroadsref23_Differ_l1] at hL_29
   refine WK.condF rfl ?_
   refine WK.exit ?_
   refine QF.exit (hout_29 _ ?_)
   subst hL_29
   try dsimp only [cond_true, cond_false] at hR
   refine WK.sr mixed ?_
   iterate 4 refine GX.m rfl ?_
   refine GX.done ?_
   refine WK.ret ?_
   subst hR
   exact RetQ.fr [2, 3] (.inr rfl) rfl rfl (viewGo_cons (view_rowT rfl rfl) (viewGo_cons (view_rowT rfl rfl) viewGo_nil)) rfl
  ·rw [hb30]
   obtain ⟨x12, hx29, hd29, hlt29⟩ := drop_more hb30
   rw [hd29, F31_crossroadsref23_Differ_l1] at hL_29
   refine WK.condT rfl ?_
   refine WK.skip ?_
   refine WK.seq ?_
   refine WK.blockK (fun _ hK31 => ?_)
   refine WK.sr mixed ?_
   refine GX.q (.ptr 1 5) ?_
   refine GX.q (.ro 4 (x1.L.map TEntry.c)) ?_
   refine GX.m rfl ?_
   refine GX.sliceHi (c := TEntry.c) (M := (x1.L.take i12)) rfl rfl rfl (by omega) (by omega) rfl ?_
   refine GX.q (.agg [.int .i64 0, .bool false, .int .u64 0, .int .u64 0, .int .u64 0, .ro 4 ((x1.L.take i12).map TEntry.c)]) ?_
   refine GX.step (v' := .ptr 4 0) (heap' := [(0, .box (TBase.c b0)), (1, .box (TList.c x1)), (2, .row 1 22 (send6.map c_u64)), (3, .row 4 28 (ask7.map TEntry.c)), (4, .box [.int .i64 0, .bool false, .int .u64 0, .int .u64 0, .int .u64 0, .nils])]) (next' := 5) rfl rfl rfl rfl rfl rfl rfl ?_
   refine GX.step0 (heap' := [(0, .box (TBase.c b0)), (1, .box (TList.c x1)), (2, .row 1 22 (send6.map c_u64)), (3, .row 4 28 (ask7.map TEntry.c)), (4, .box [.int .i64 0, .bool false, .int .u64 0, .int .u64 0, .int .u64 0, .ro 4 ((x1.L.take i12).map TEntry.c)])]) (next' := 5) rfl rfl rfl rfl rfl ?_
   refine GX.done ?_
   refine WK.seq ?_
   refine WK.drawn mixed ?_
   refine RD.q (.agg [.int .i64 0, .bool false, .int .u64 0, .int .u64 0, .int .u64 0, .ro 4 ((x1.L.take i12).map TEntry.c)]) ?_
   refine RD.q (.ptr 1 5) ?_
   refine RD.q (.ro 4 (x1.L.map TEntry.c)) ?_
   refine RD.m rfl ?_
   refine RD.idxT (c := TEntry.c) (x := x12) rfl rfl rfl (Int.natCast_nonneg _) hx29 ?_
   refine RD.q (.rptr [.int .u64 x12.ID, .int .u32 x12.Seq, .int .i64 x12.Sum]) ?_
   refine RD.q (.int .u64 x12.ID) ?_
   generalize hc94 : F57_crossroadsref23_told (⟨0, false, 0, 0, 0, (x1.L.take i12)⟩ : TList) x12.ID = c94 at hL_29
   obtain ⟨c94a, c94b⟩ := c94; try dsimp only at hL_29
   refine RD.callp (r := .tup [.agg [.int .i64 c94a.Life, .int .u64 c94a.ID, .int .u32 c94a.Seq, .int .i64 c94a.Sum], .bool c94b]) rfl rfl rfl (f57_ok (⟨0, false, 0, 0, 0, (x1.L.take i12)⟩ : TList) x12.ID _ hc94) rfl rfl ?_
   refine RD.m rfl ?_
   refine RD.q (.agg [.int .i64 c94a.Life, .int .u64 c94a.ID, .int .u32 c94a.Seq, .int .i64 c94a.Sum]) ?_
   refine RD.q (.bool c94b) ?_
   refine RD.step (v' := .ptr 5 0) (heap' := [(0, .box (TBase.c b0)), (1, .box (TList.c x1)), (2, .row 1 22 (send6.map c_u64)), (3, .row 4 28 (ask7.map TEntry.c)), (4, .box [.int .i64 0, .bool false, .int .u64 0, .int .u64 0, .int .u64 0, .ro 4 ((x1.L.take i12).map TEntry.c)]), (5, .box [.int .i64 0, .int .u64 0, .int .u32 0, .int .i64 0])]) (next' := 6) rfl rfl rfl rfl rfl rfl rfl ?_
   refine RD.step0 (heap' := [(0, .box (TBase.c b0)), (1, .box (TList.c x1)), (2, .row 1 22 (send6.map c_u64)), (3, .row 4 28 (ask7.map TEntry.c)), (4, .box [.int .i64 0, .bool false, .int .u64 0, .int .u64 0, .int .u64 0, .ro 4 ((x1.L.take i12).map TEntry.c)]), (5, .box (TEntry.c c94a))]) (next' := 6) rfl rfl rfl rfl rfl ?_
   refine RD.m rfl ?_
   refine RD.done rfl ?_
   refine WK.seq ?_
   refine WK.drawn mixed ?_
   refine RD.q (.agg (TBase.c b0)) ?_
   refine RD.q (.ptr 1 5) ?_
   refine RD.q (.ro 4 (x1.L.map TEntry.c)) ?_
   refine RD.m rfl ?_
   refine RD.idxT (c := TEntry.c) (x := x12) rfl rfl rfl (Int.natCast_nonneg _) hx29 ?_
   refine RD.q (.rptr [.int .u64 x12.ID, .int .u32 x12.Seq, .int .i64 x12.Sum]) ?_
   refine RD.q (.int .u64 x12.ID) ?_
   generalize hc105 : F54_crossroadsref23_Find b0 x12.ID = c105 at hL_29
   have hpo0_c105 := post_rFind b0 x12.ID (by omega); rw [hc105] at hpo0_c105
   obtain ⟨c105a, c105b⟩ := c105; try dsimp only at hL_29; try dsimp only at hpo0_c105
   refine RD.callp (r := .tup [.agg [.int .i64 c105a.Level, .int .i64 c105a.Life, .int .u64 c105a.ID, .int .u32 c105a.Seq, .int .i64 c105a.Sum, .int .i64 c105a.Bits, .ro 2 (c105a.Things.map TThing.c)], .bool c105b]) rfl rfl rfl (f54_ok b0 x12.ID _ hc105) rfl rfl ?_
   refine RD.m rfl ?_
   refine RD.q (.agg [.int .i64 c105a.Level, .int .i64 c105a.Life, .int .u64 c105a.ID, .int .u32 c105a.Seq, .int .i64 c105a.Sum, .int .i64 c105a.Bits, .ro 2 (c105a.Things.map TThing.c)]) ?_
   refine RD.q (.bool c105b) ?_
   refine RD.step (v' := .ptr 6 0) (heap' := [(0, .box (TBase.c b0)), (1, .box (TList.c x1)), (2, .row 1 22 (send6.map c_u64)), (3, .row 4 28 (ask7.map TEntry.c)), (4, .box [.int .i64 0, .bool false, .int .u64 0, .int .u64 0, .int .u64 0, .ro 4 ((x1.L.take i12).map TEntry.c)]), (5, .box (TEntry.c c94a)), (6, .box [.int .i64 0, .int .i64 0, .int .u64 0, .int .u32 0, .int .i64 0, .int .i64 0, .nils])]) (next' := 7) rfl rfl rfl rfl rfl rfl rfl ?_
   refine RD.step0 (heap' := [(0, .box (TBase.c b0)), (1, .box (TList.c x1)), (2, .row 1 22 (send6.map c_u64)), (3, .row 4 28 (ask7.map TEntry.c)), (4, .box [.int .i64 0, .bool false, .int .u64 0, .int .u64 0, .int .u64 0, .ro 4 ((x1.L.take i12).map TEntry.c)]), (5, .box (TEntry.c c94a)), (6, .box (TLsp.c c105a))]) (next' := 7) rfl rfl rfl rfl rfl ?_
   refine RD.m rfl ?_
   refine RD.done rfl ?_
   iterate 2 refine WK.seq ?_
   refine WK.drawn mixed ?_
   iterate 2 refine RD.m rfl ?_
   rcases bool_two (c94b) with hb32 | hb32
   ·rw [hb32]; try simp only [hb32, bb] at hL_29
    refine RD.q (.ptr 1 5) ?_
    refine RD.q (.ro 4 (x1.L.map TEntry.c)) ?_
    refine RD.m rfl ?_
    refine RD.idxT (c := TEntry.c) (x := x12) rfl rfl rfl (Int.natCast_nonneg _) hx29 ?_
    refine RD.q (.rptr (TEntry.c x12)) ?_
    refine RD.q (.int .i64 x12.Life) ?_
    iterate 2 refine RD.q (.bool (decide (x12.Life = 0))) ?_
    refine RD.m rfl ?_
    rcases bool_two (decide (x12.Life = 0)) with hb33 | hb33
    ·rw [hb33]; try simp only [hb33, bb] at hL_29
     iterate 2 refine RD.m rfl ?_
     rcases bool_two (c105b) with hb34 | hb34
     ·rw [hb34]; try simp only [hb34, bb] at hL_29
      iterate 9 refine RD.skip rfl rfl ?_
      iterate 2 refine RD.q (.bool false) ?_
      refine RD.done rfl ?_
      refine WK.condF rfl ?_
      refine WK.skip ?_
      refine WK.sr mixed ?_
      refine GX.m rfl ?_
      refine GX.done ?_
      refine WK.condF rfl ?_
      refine WK.regx mixed ?_
      refine GX.m rfl ?_
      refine GX.q (.ptr 1 5) ?_
      refine GX.q (.ro 4 (x1.L.map TEntry.c)) ?_
      refine GX.m rfl ?_
      refine GX.idxT (c := TEntry.c) (x := x12) rfl rfl rfl (Int.natCast_nonneg _) hx29 ?_
      refine GX.q (.rptr [.int .u64 x12.ID, .int .u32 x12.Seq, .int .i64 x12.Sum]) ?_
      refine GX.q (.int .u64 x12.ID) ?_
      refine GX.q (.agg [.int .i64 0, .int .u64 x12.ID, .int .u32 0, .int .i64 0]) ?_
      refine GX.step (v' := .own 7 4 0 (([(⟨0, x12.ID, 0, 0⟩ : TEntry)] : List TEntry)).length) (heap' := [(0, .box (TBase.c b0)), (1, .box (TList.c x1)), (2, .row 1 22 (send6.map c_u64)), (3, .row 4 28 (ask7.map TEntry.c)), (4, .box [.int .i64 0, .bool false, .int .u64 0, .int .u64 0, .int .u64 0, .ro 4 ((x1.L.take i12).map TEntry.c)]), (5, .box (TEntry.c c94a)), (6, .box (TLsp.c c105a)), (7, .row 4 28 (([(⟨0, x12.ID, 0, 0⟩ : TEntry)] : List TEntry).map TEntry.c))]) (next' := 8) rfl rfl rfl rfl rfl rfl rfl ?_
      refine GX.appT (c := TEntry.c) (L := ask7) (X := ([(⟨0, x12.ID, 0, 0⟩ : TEntry)] : List TEntry)) (heap' := [(0, .box (TBase.c b0)), (1, .box (TList.c x1)), (2, .row 1 22 (send6.map c_u64)), (4, .box [.int .i64 0, .bool false, .int .u64 0, .int .u64 0, .int .u64 0, .ro 4 ((x1.L.take i12).map TEntry.c)]), (5, .box (TEntry.c c94a)), (6, .box (TLsp.c c105a)), (7, .row 4 28 (([(⟨0, x12.ID, 0, 0⟩ : TEntry)] : List TEntry).map TEntry.c)), (8, .row 4 28 ((ask7 ++ ([(⟨0, x12.ID, 0, 0⟩ : TEntry)] : List TEntry)).map TEntry.c))]) (next' := 9) rfl rfl rfl rfl (elems_own rfl) (by ((try simp only [List.length_append, List.length_cons, List.length_nil, List.length_map, decide_eq_true_eq, decide_eq_false_iff_not] at *) <;> omega)) (by ((try simp only [List.length_append, List.length_cons, List.length_nil, List.length_map, decide_eq_true_eq, decide_eq_false_iff_not] at *) <;> omega)) rfl rfl rfl rfl ?_
      refine GX.m rfl ?_
      refine GX.done ?_
      refine WK.nil (QF.normal (hK31 _ ?_))
      refine WK.regx mixed ?_
      refine GX.m rfl ?_
      refine GX.pure (v' := .int .i64 ((i12 + 1 : Nat) : Int)) rfl rfl rfl rfl (congrArg (PVal.int .i64) (wrap_up hlt29 hlen_29)) ?_
      refine GX.m rfl ?_
      refine GX.done ?_
      refine WK.nil (QF.normal ?_)
      exact hagain_29 _ (x1.L.length - (i12 + 1)) ⟨[(2, .ptr 0 0), (3, .ptr 1 0), (6, .own 2 1 0 send6.length), (7, .own 3 4 0 (ask7 ++ ([(⟨0, x12.ID, 0, 0⟩ : TEntry)] : List TEntry)).length), (12, .int .i64 ((i12 + 1) : Int))], [(0, .box (TBase.c b0)), (1, .box (TList.c x1)), (2, .row 1 22 (send6.map c_u64)), (3, .row 4 28 ((ask7 ++ ([(⟨0, x12.ID, 0, 0⟩ : TEntry)] : List TEntry)).map TEntry.c))], 4⟩ (by omega) (Conv.keep [0, 1, 2, 8] [] [2, 3, 6, 7, 12] rfl rfl (viewE_cons rfl rfl (viewE_cons rfl rfl (viewE_cons rfl rfl (viewE_cons rfl rfl (viewE_cons rfl rfl viewE_nil))))) rfl rfl) ⟨i12 + 1, (ask7 ++ ([(⟨0, x12.ID, 0, 0⟩ : TEntry)] : List TEntry)), (by omega), rfl, (by ((try simp only [List.length_append, List.length_cons, List.length_nil, decide_eq_true_eq, decide_eq_false_iff_not] at *) <;> first | omega | (rw [wrap64_of (by omega) (by omega)]; omega))), hL_29, rfl⟩
     ·rw [hb34]; try simp only [hb34, bb] at hL_29
      refine RD.q (.ptr 1 5) ?_
      refine RD.q (.ro 4 (x1.L.map TEntry.c)) ?_
      refine RD.m rfl ?_
      refine RD.idxT (c := TEntry.c) (x := x12) rfl rfl rfl (Int.natCast_nonneg _) hx29 ?_
      refine RD.q (.agg (TEntry.c x12)) ?_
      refine RD.q (.agg (TLsp.c c105a)) ?_
      generalize hc127 : F56_crossroadsref23_Entry c105a = c127 at hL_29
      try dsimp only at hL_29
      refine RD.callp (r := .agg [.int .i64 c127.Life, .int .u64 c127.ID, .int .u32 c127.Seq, .int .i64 c127.Sum]) rfl rfl rfl (f56_ok c105a _ hc127) rfl rfl ?_
      generalize hc128 : F9_crossroadsref23_Compare x12 c127 = c128 at hL_29
      try dsimp only at hL_29
      refine RD.callp (r := .int .i64 c128) rfl rfl rfl (f9_ok x12 c127 _ hc128) rfl rfl ?_
      iterate 3 refine RD.q (.bool (decide (c128 ≤ 0))) ?_
      refine RD.done rfl ?_
      rcases bool_two (decide (c128 ≤ 0)) with hb35 | hb35
      ·rw [hb35]; try simp only [hb35, bb] at hL_29
       refine WK.condF rfl ?_
       refine WK.skip ?_
       refine WK.sr mixed ?_
       refine GX.m rfl ?_
       refine GX.done ?_
       refine WK.condT rfl ?_
       refine WK.regx mixed ?_
       refine GX.m rfl ?_
       refine GX.q (.agg (TLsp.c c105a)) ?_
       refine GX.callp (r := .agg [.int .i64 c127.Life, .int .u64 c127.ID, .int .u32 c127.Seq, .int .i64 c127.Sum]) rfl rfl rfl (f56_ok c105a _ hc127) rfl rfl ?_
       refine GX.step (v' := .own 7 4 0 (([c127] : List TEntry)).length) (heap' := [(0, .box (TBase.c b0)), (1, .box (TList.c x1)), (2, .row 1 22 (send6.map c_u64)), (3, .row 4 28 (ask7.map TEntry.c)), (4, .box [.int .i64 0, .bool false, .int .u64 0, .int .u64 0, .int .u64 0, .ro 4 ((x1.L.take i12).map TEntry.c)]), (5, .box (TEntry.c c94a)), (6, .box (TLsp.c c105a)), (7, .row 4 28 (([c127] : List TEntry).map TEntry.c))]) (next' := 8) rfl rfl rfl rfl rfl rfl rfl ?_
       refine GX.appT (c := TEntry.c) (L := ask7) (X := ([c127] : List TEntry)) (heap' := [(0, .box (TBase.c b0)), (1, .box (TList.c x1)), (2, .row 1 22 (send6.map c_u64)), (4, .box [.int .i64 0, .bool false, .int .u64 0, .int .u64 0, .int .u64 0, .ro 4 ((x1.L.take i12).map TEntry.c)]), (5, .box (TEntry.c c94a)), (6, .box (TLsp.c c105a)), (7, .row 4 28 (([c127] : List TEntry).map TEntry.c)), (8, .row 4 28 ((ask7 ++ ([c127] : List TEntry)).map TEntry.c))]) (next' := 9) rfl rfl rfl rfl (elems_own rfl) (by ((try simp only [List.length_append, List.length_cons, List.length_nil, List.length_map, decide_eq_true_eq, decide_eq_false_iff_not] at *) <;> omega)) (by ((try simp only [List.length_append, List.length_cons, List.length_nil, List.length_map, decide_eq_true_eq, decide_eq_false_iff_not] at *) <;> omega)) rfl rfl rfl rfl ?_
       refine GX.m rfl ?_
       refine GX.done ?_
       refine WK.nil (QF.normal (hK31 _ ?_))
       refine WK.regx mixed ?_
       refine GX.m rfl ?_
       refine GX.pure (v' := .int .i64 ((i12 + 1 : Nat) : Int)) rfl rfl rfl rfl (congrArg (PVal.int .i64) (wrap_up hlt29 hlen_29)) ?_
       refine GX.m rfl ?_
       refine GX.done ?_
       refine WK.nil (QF.normal ?_)
       exact hagain_29 _ (x1.L.length - (i12 + 1)) ⟨[(2, .ptr 0 0), (3, .ptr 1 0), (6, .own 2 1 0 send6.length), (7, .own 3 4 0 (ask7 ++ ([c127] : List TEntry)).length), (12, .int .i64 ((i12 + 1) : Int))], [(0, .box (TBase.c b0)), (1, .box (TList.c x1)), (2, .row 1 22 (send6.map c_u64)), (3, .row 4 28 ((ask7 ++ ([c127] : List TEntry)).map TEntry.c))], 4⟩ (by omega) (Conv.keep [0, 1, 2, 8] [] [2, 3, 6, 7, 12] rfl rfl (viewE_cons rfl rfl (viewE_cons rfl rfl (viewE_cons rfl rfl (viewE_cons rfl rfl (viewE_cons rfl rfl viewE_nil))))) rfl rfl) ⟨i12 + 1, (ask7 ++ ([c127] : List TEntry)), (by omega), rfl, (by ((try simp only [List.length_append, List.length_cons, List.length_nil, decide_eq_true_eq, decide_eq_false_iff_not] at *) <;> first | omega | (rw [wrap64_of (by omega) (by omega)]; omega))), hL_29, rfl⟩
      ·rw [hb35]; try simp only [hb35, bb] at hL_29
       refine WK.condT rfl ?_
       refine WK.exit ?_
       refine QF.exit (hK31 _ ?_)
       refine WK.regx mixed ?_
       refine GX.m rfl ?_
       refine GX.pure (v' := .int .i64 ((i12 + 1 : Nat) : Int)) rfl rfl rfl rfl (congrArg (PVal.int .i64) (wrap_up hlt29 hlen_29)) ?_
       refine GX.m rfl ?_
       refine GX.done ?_
       refine WK.nil (QF.normal ?_)
       exact hagain_29 _ (x1.L.length - (i12 + 1)) ⟨[(2, .ptr 0 0), (3, .ptr 1 0), (6, .own 2 1 0 send6.length), (7, .own 3 4 0 ask7.length), (12, .int .i64 ((i12 + 1) : Int))], [(0, .box (TBase.c b0)), (1, .box (TList.c x1)), (2, .row 1 22 (send6.map c_u64)), (3, .row 4 28 (ask7.map TEntry.c))], 4⟩ (by omega) (Conv.keep [0, 1, 2, 3] [] [2, 3, 6, 7, 12] rfl rfl (viewE_cons rfl rfl (viewE_cons rfl rfl (viewE_cons rfl rfl (viewE_cons rfl rfl (viewE_cons rfl rfl viewE_nil))))) rfl rfl) ⟨i12 + 1, ask7, (by omega), rfl, (by omega), hL_29, rfl⟩
    ·rw [hb33]; try simp only [hb33, bb] at hL_29
     iterate 12 refine RD.skip rfl rfl ?_
     refine RD.q (.bool true) ?_
     refine RD.done rfl ?_
     refine WK.condT rfl ?_
     refine WK.exit ?_
     refine QF.exit (hK31 _ ?_)
     refine WK.regx mixed ?_
     refine GX.m rfl ?_
     refine GX.pure (v' := .int .i64 ((i12 + 1 : Nat) : Int)) rfl rfl rfl rfl (congrArg (PVal.int .i64) (wrap_up hlt29 hlen_29)) ?_
     refine GX.m rfl ?_
     refine GX.done ?_
     refine WK.nil (QF.normal ?_)
     exact hagain_29 _ (x1.L.length - (i12 + 1)) ⟨[(2, .ptr 0 0), (3, .ptr 1 0), (6, .own 2 1 0 send6.length), (7, .own 3 4 0 ask7.length), (12, .int .i64 ((i12 + 1) : Int))], [(0, .box (TBase.c b0)), (1, .box (TList.c x1)), (2, .row 1 22 (send6.map c_u64)), (3, .row 4 28 (ask7.map TEntry.c))], 4⟩ (by omega) (Conv.keep [0, 1, 2, 3] [] [2, 3, 6, 7, 12] rfl rfl (viewE_cons rfl rfl (viewE_cons rfl rfl (viewE_cons rfl rfl (viewE_cons rfl rfl (viewE_cons rfl rfl viewE_nil))))) rfl rfl) ⟨i12 + 1, ask7, (by omega), rfl, (by omega), hL_29, rfl⟩
   ·rw [hb32]; try simp only [hb32, bb] at hL_29
    iterate 7 refine RD.skip rfl rfl ?_
    refine RD.q (.bool true) ?_
    refine RD.m rfl ?_
    iterate 12 refine RD.skip rfl rfl ?_
    refine RD.q (.bool true) ?_
    refine RD.done rfl ?_
    refine WK.condT rfl ?_
    refine WK.exit ?_
    refine QF.exit (hK31 _ ?_)
    refine WK.regx mixed ?_
    refine GX.m rfl ?_
    refine GX.pure (v' := .int .i64 ((i12 + 1 : Nat) : Int)) rfl rfl rfl rfl (congrArg (PVal.int .i64) (wrap_up hlt29 hlen_29)) ?_
    refine GX.m rfl ?_
    refine GX.done ?_
    refine WK.nil (QF.normal ?_)
    exact hagain_29 _ (x1.L.length - (i12 + 1)) ⟨[(2, .ptr 0 0), (3, .ptr 1 0), (6, .own 2 1 0 send6.length), (7, .own 3 4 0 ask7.length), (12, .int .i64 ((i12 + 1) : Int))], [(0, .box (TBase.c b0)), (1, .box (TList.c x1)), (2, .row 1 22 (send6.map c_u64)), (3, .row 4 28 (ask7.map TEntry.c))], 4⟩ (by omega) (Conv.keep [0, 1, 2, 3] [] [2, 3, 6, 7, 12] rfl rfl (viewE_cons rfl rfl (viewE_cons rfl rfl (viewE_cons rfl rfl (viewE_cons rfl rfl (viewE_cons rfl rfl viewE_nil))))) rfl rfl) ⟨i12 + 1, ask7, (by omega), rfl, (by omega), hL_29, rfl⟩
 ·rw [hb22]
  obtain ⟨x8, hx21, hd21, hlt21⟩ := drop_more hb22
  rw [hd21, F31_crossroadsref23_Differ_l2] at hL_21
  refine WK.condT rfl ?_
  refine WK.skip ?_
  refine WK.seq ?_
  refine WK.blockK (fun _ hK36 => ?_)
  refine WK.sr mixed ?_
  refine GX.q (.ptr 0 2) ?_
  refine GX.q (.ro 7 (b0.L.map TLsp.c)) ?_
  refine GX.m rfl ?_
  refine GX.idxT (c := TLsp.c) (x := x8) rfl rfl rfl (Int.natCast_nonneg _) hx21 ?_
  refine GX.q (.agg (TLsp.c x8)) ?_
  generalize hc32 : F56_crossroadsref23_Entry x8 = c32 at hL_21
  try dsimp only at hL_21
  refine GX.callp (r := .agg [.int .i64 c32.Life, .int .u64 c32.ID, .int .u32 c32.Seq, .int .i64 c32.Sum]) rfl rfl rfl (f56_ok x8 _ hc32) rfl rfl ?_
  refine GX.step (v' := .ptr 4 0) (heap' := [(0, .box (TBase.c b0)), (1, .box (TList.c x1)), (2, .row 1 22 (send6.map c_u64)), (3, .row 4 28 (([] : List TEntry).map TEntry.c)), (4, .box [.int .i64 0, .int .u64 0, .int .u32 0, .int .i64 0])]) (next' := 5) rfl rfl rfl rfl rfl rfl rfl ?_
  refine GX.step0 (heap' := [(0, .box (TBase.c b0)), (1, .box (TList.c x1)), (2, .row 1 22 (send6.map c_u64)), (3, .row 4 28 (([] : List TEntry).map TEntry.c)), (4, .box (TEntry.c c32))]) (next' := 5) rfl rfl rfl rfl rfl ?_
  refine GX.done ?_
  refine WK.sr mixed ?_
  refine GX.q (.agg (TList.c x1)) ?_
  refine GX.q (.ptr 4 1) ?_
  refine GX.q (.int .u64 c32.ID) ?_
  generalize hc37 : F57_crossroadsref23_told x1 c32.ID = c37 at hL_21
  obtain ⟨c37a, c37b⟩ := c37; try dsimp only at hL_21
  refine GX.callp (r := .tup [.agg [.int .i64 c37a.Life, .int .u64 c37a.ID, .int .u32 c37a.Seq, .int .i64 c37a.Sum], .bool c37b]) rfl rfl rfl (f57_ok x1 c32.ID _ hc37) rfl rfl ?_
  refine GX.m rfl ?_
  refine GX.q (.agg [.int .i64 c37a.Life, .int .u64 c37a.ID, .int .u32 c37a.Seq, .int .i64 c37a.Sum]) ?_
  refine GX.q (.bool c37b) ?_
  refine GX.step (v' := .ptr 5 0) (heap' := [(0, .box (TBase.c b0)), (1, .box (TList.c x1)), (2, .row 1 22 (send6.map c_u64)), (3, .row 4 28 (([] : List TEntry).map TEntry.c)), (4, .box (TEntry.c c32)), (5, .box [.int .i64 0, .int .u64 0, .int .u32 0, .int .i64 0])]) (next' := 6) rfl rfl rfl rfl rfl rfl rfl ?_
  refine GX.step0 (heap' := [(0, .box (TBase.c b0)), (1, .box (TList.c x1)), (2, .row 1 22 (send6.map c_u64)), (3, .row 4 28 (([] : List TEntry).map TEntry.c)), (4, .box (TEntry.c c32)), (5, .box (TEntry.c c37a))]) (next' := 6) rfl rfl rfl rfl rfl ?_
  refine GX.m rfl ?_
  refine GX.done ?_
  refine WK.sr mixed ?_
  iterate 2 refine GX.m rfl ?_
  rcases bool_two (c37b) with hb37 | hb37
  ·rw [hb37]; try simp only [hb37, bb] at hL_21
   iterate 4 refine GX.skip rfl rfl ?_
   refine GX.q (.bool false) ?_
   iterate 2 refine GX.m rfl ?_
   refine GX.q (.bool true) ?_
   refine GX.m rfl ?_
   refine GX.q (.ptr 1 1) ?_
   iterate 2 refine GX.q (.bool x1.Whole) ?_
   refine GX.m rfl ?_
   rcases bool_two (x1.Whole) with hb38 | hb38
   ·rw [hb38]; try simp only [hb38, bb] at hL_21
    iterate 5 refine GX.skip rfl rfl ?_
    refine GX.q (.bool false) ?_
    refine GX.m rfl ?_
    iterate 5 refine GX.skip rfl rfl ?_
    iterate 2 refine GX.q (.bool false) ?_
    refine GX.done ?_
    refine WK.condF rfl ?_
    refine WK.skip ?_
    refine WK.nil (QF.normal (hK36 _ ?_))
    refine WK.regx mixed ?_
    refine GX.m rfl ?_
    refine GX.pure (v' := .int .i64 ((i8 + 1 : Nat) : Int)) rfl rfl rfl rfl (congrArg (PVal.int .i64) (wrap_up hlt21 hlen_21)) ?_
    refine GX.m rfl ?_
    refine GX.done ?_
    refine WK.nil (QF.normal ?_)
    exact hagain_21 _ (b0.L.length - (i8 + 1)) ⟨[(2, .ptr 0 0), (3, .ptr 1 0), (6, .own 2 1 0 send6.length), (7, .own 3 4 0 (([] : List TEntry)).length), (8, .int .i64 ((i8 + 1) : Int))], [(0, .box (TBase.c b0)), (1, .box (TList.c x1)), (2, .row 1 22 (send6.map c_u64)), (3, .row 4 28 (([] : List TEntry).map TEntry.c))], 4⟩ (by omega) (Conv.keep [0, 1, 2, 3] [] [2, 3, 6, 7, 8] rfl rfl (viewE_cons rfl rfl (viewE_cons rfl rfl (viewE_cons rfl rfl (viewE_cons rfl rfl (viewE_cons rfl rfl viewE_nil))))) rfl rfl) ⟨i8 + 1, send6, (by omega), rfl, (by omega), hL_21, rfl⟩
   ·rw [hb38]; try simp only [hb38, bb] at hL_21
    refine GX.q (.ptr 4 1) ?_
    refine GX.q (.int .u64 c32.ID) ?_
    refine GX.q (.ptr 1 3) ?_
    refine GX.q (.int .u64 x1.Low) ?_
    iterate 2 refine GX.q (.bool (decide (x1.Low ≤ c32.ID))) ?_
    refine GX.m rfl ?_
    rcases bool_two (decide (x1.Low ≤ c32.ID)) with hb39 | hb39
    ·rw [hb39]; try simp only [hb39, bb] at hL_21
     iterate 5 refine GX.skip rfl rfl ?_
     iterate 2 refine GX.q (.bool false) ?_
     refine GX.done ?_
     refine WK.condF rfl ?_
     refine WK.skip ?_
     refine WK.nil (QF.normal (hK36 _ ?_))
     refine WK.regx mixed ?_
     refine GX.m rfl ?_
     refine GX.pure (v' := .int .i64 ((i8 + 1 : Nat) : Int)) rfl rfl rfl rfl (congrArg (PVal.int .i64) (wrap_up hlt21 hlen_21)) ?_
     refine GX.m rfl ?_
     refine GX.done ?_
     refine WK.nil (QF.normal ?_)
     exact hagain_21 _ (b0.L.length - (i8 + 1)) ⟨[(2, .ptr 0 0), (3, .ptr 1 0), (6, .own 2 1 0 send6.length), (7, .own 3 4 0 (([] : List TEntry)).length), (8, .int .i64 ((i8 + 1) : Int))], [(0, .box (TBase.c b0)), (1, .box (TList.c x1)), (2, .row 1 22 (send6.map c_u64)), (3, .row 4 28 (([] : List TEntry).map TEntry.c))], 4⟩ (by omega) (Conv.keep [0, 1, 2, 3] [] [2, 3, 6, 7, 8] rfl rfl (viewE_cons rfl rfl (viewE_cons rfl rfl (viewE_cons rfl rfl (viewE_cons rfl rfl (viewE_cons rfl rfl viewE_nil))))) rfl rfl) ⟨i8 + 1, send6, (by omega), rfl, (by omega), hL_21, rfl⟩
    ·rw [hb39]; try simp only [hb39, bb] at hL_21
     refine GX.q (.ptr 4 1) ?_
     refine GX.q (.int .u64 c32.ID) ?_
     refine GX.q (.ptr 1 4) ?_
     refine GX.q (.int .u64 x1.High) ?_
     iterate 3 refine GX.q (.bool (decide (c32.ID ≤ x1.High))) ?_
     refine GX.done ?_
     rcases bool_two (decide (c32.ID ≤ x1.High)) with hb40 | hb40
     ·rw [hb40]; try simp only [hb40, bb] at hL_21
      refine WK.condF rfl ?_
      refine WK.skip ?_
      refine WK.nil (QF.normal (hK36 _ ?_))
      refine WK.regx mixed ?_
      refine GX.m rfl ?_
      refine GX.pure (v' := .int .i64 ((i8 + 1 : Nat) : Int)) rfl rfl rfl rfl (congrArg (PVal.int .i64) (wrap_up hlt21 hlen_21)) ?_
      refine GX.m rfl ?_
      refine GX.done ?_
      refine WK.nil (QF.normal ?_)
      exact hagain_21 _ (b0.L.length - (i8 + 1)) ⟨[(2, .ptr 0 0), (3, .ptr 1 0), (6, .own 2 1 0 send6.length), (7, .own 3 4 0 (([] : List TEntry)).length), (8, .int .i64 ((i8 + 1) : Int))], [(0, .box (TBase.c b0)), (1, .box (TList.c x1)), (2, .row 1 22 (send6.map c_u64)), (3, .row 4 28 (([] : List TEntry).map TEntry.c))], 4⟩ (by omega) (Conv.keep [0, 1, 2, 3] [] [2, 3, 6, 7, 8] rfl rfl (viewE_cons rfl rfl (viewE_cons rfl rfl (viewE_cons rfl rfl (viewE_cons rfl rfl (viewE_cons rfl rfl viewE_nil))))) rfl rfl) ⟨i8 + 1, send6, (by omega), rfl, (by omega), hL_21, rfl⟩
     ·rw [hb40]; try simp only [hb40, bb] at hL_21
      refine WK.condT rfl ?_
      refine WK.regx mixed ?_
      refine GX.m rfl ?_
      refine GX.q (.ptr 4 1) ?_
      refine GX.q (.int .u64 c32.ID) ?_
      refine GX.step (v' := .own 6 1 0 (([c32.ID] : List Int)).length) (heap' := [(0, .box (TBase.c b0)), (1, .box (TList.c x1)), (2, .row 1 22 (send6.map c_u64)), (3, .row 4 28 (([] : List TEntry).map TEntry.c)), (4, .box (TEntry.c c32)), (5, .box (TEntry.c c37a)), (6, .row 1 22 (([c32.ID] : List Int).map c_u64))]) (next' := 7) rfl rfl rfl rfl rfl rfl rfl ?_
      refine GX.appT (c := c_u64) (L := send6) (X := ([c32.ID] : List Int)) (heap' := [(0, .box (TBase.c b0)), (1, .box (TList.c x1)), (3, .row 4 28 (([] : List TEntry).map TEntry.c)), (4, .box (TEntry.c c32)), (5, .box (TEntry.c c37a)), (6, .row 1 22 (([c32.ID] : List Int).map c_u64)), (7, .row 1 22 ((send6 ++ ([c32.ID] : List Int)).map c_u64))]) (next' := 8) rfl rfl rfl rfl (elems_own rfl) (by (have h1 := SmB.nL (by assumption); (try simp only [List.length_append, List.length_cons, List.length_nil, decide_eq_true_eq, decide_eq_false_iff_not] at *); omega)) (by ((try simp only [List.length_append, List.length_cons, List.length_nil, List.length_map, decide_eq_true_eq, decide_eq_false_iff_not] at *) <;> omega)) rfl rfl rfl rfl ?_
      refine GX.m rfl ?_
      refine GX.done ?_
      refine WK.nil (QF.normal (hK36 _ ?_))
      refine WK.regx mixed ?_
      refine GX.m rfl ?_
      refine GX.pure (v' := .int .i64 ((i8 + 1 : Nat) : Int)) rfl rfl rfl rfl (congrArg (PVal.int .i64) (wrap_up hlt21 hlen_21)) ?_
      refine GX.m rfl ?_
      refine GX.done ?_
      refine WK.nil (QF.normal ?_)
      exact hagain_21 _ (b0.L.length - (i8 + 1)) ⟨[(2, .ptr 0 0), (3, .ptr 1 0), (6, .own 2 1 0 (send6 ++ ([c32.ID] : List Int)).length), (7, .own 3 4 0 (([] : List TEntry)).length), (8, .int .i64 ((i8 + 1) : Int))], [(0, .box (TBase.c b0)), (1, .box (TList.c x1)), (2, .row 1 22 ((send6 ++ ([c32.ID] : List Int)).map c_u64)), (3, .row 4 28 (([] : List TEntry).map TEntry.c))], 4⟩ (by omega) (Conv.keep [0, 1, 7, 3] [] [2, 3, 6, 7, 8] rfl rfl (viewE_cons rfl rfl (viewE_cons rfl rfl (viewE_cons rfl rfl (viewE_cons rfl rfl (viewE_cons rfl rfl viewE_nil))))) rfl rfl) ⟨i8 + 1, (send6 ++ ([c32.ID] : List Int)), (by omega), rfl, (by ((try simp only [List.length_append, List.length_cons, List.length_nil, decide_eq_true_eq, decide_eq_false_iff_not] at *) <;> first | omega | (rw [wrap64_of (by omega) (by omega)]; omega))), hL_21, rfl⟩
  ·rw [hb37]; try simp only [hb37, bb] at hL_21
   refine GX.q (.agg (TEntry.c c32)) ?_
   refine GX.q (.agg (TEntry.c c37a)) ?_
   generalize hc44 : F9_crossroadsref23_Compare c32 c37a = c44 at hL_21
   try dsimp only at hL_21
   refine GX.callp (r := .int .i64 c44) rfl rfl rfl (f9_ok c32 c37a _ hc44) rfl rfl ?_
   iterate 2 refine GX.q (.bool (decide (0 < c44))) ?_
   refine GX.m rfl ?_
   rcases bool_two (decide (0 < c44)) with hb41 | hb41
   ·rw [hb41]; try simp only [hb41, bb] at hL_21
    refine GX.m rfl ?_
    refine GX.q (.bool false) ?_
    refine GX.m rfl ?_
    iterate 2 refine GX.skip rfl rfl ?_
    refine GX.q (.bool false) ?_
    refine GX.m rfl ?_
    iterate 5 refine GX.skip rfl rfl ?_
    refine GX.q (.bool false) ?_
    refine GX.m rfl ?_
    iterate 5 refine GX.skip rfl rfl ?_
    iterate 2 refine GX.q (.bool false) ?_
    refine GX.done ?_
    refine WK.condF rfl ?_
    refine WK.skip ?_
    refine WK.nil (QF.normal (hK36 _ ?_))
    refine WK.regx mixed ?_
    refine GX.m rfl ?_
    refine GX.pure (v' := .int .i64 ((i8 + 1 : Nat) : Int)) rfl rfl rfl rfl (congrArg (PVal.int .i64) (wrap_up hlt21 hlen_21)) ?_
    refine GX.m rfl ?_
    refine GX.done ?_
    refine WK.nil (QF.normal ?_)
    exact hagain_21 _ (b0.L.length - (i8 + 1)) ⟨[(2, .ptr 0 0), (3, .ptr 1 0), (6, .own 2 1 0 send6.length), (7, .own 3 4 0 (([] : List TEntry)).length), (8, .int .i64 ((i8 + 1) : Int))], [(0, .box (TBase.c b0)), (1, .box (TList.c x1)), (2, .row 1 22 (send6.map c_u64)), (3, .row 4 28 (([] : List TEntry).map TEntry.c))], 4⟩ (by omega) (Conv.keep [0, 1, 2, 3] [] [2, 3, 6, 7, 8] rfl rfl (viewE_cons rfl rfl (viewE_cons rfl rfl (viewE_cons rfl rfl (viewE_cons rfl rfl (viewE_cons rfl rfl viewE_nil))))) rfl rfl) ⟨i8 + 1, send6, (by omega), rfl, (by omega), hL_21, rfl⟩
   ·rw [hb41]; try simp only [hb41, bb] at hL_21
    iterate 20 refine GX.skip rfl rfl ?_
    refine GX.q (.bool true) ?_
    refine GX.done ?_
    refine WK.condT rfl ?_
    refine WK.regx mixed ?_
    refine GX.m rfl ?_
    refine GX.q (.ptr 4 1) ?_
    refine GX.q (.int .u64 c32.ID) ?_
    refine GX.step (v' := .own 6 1 0 (([c32.ID] : List Int)).length) (heap' := [(0, .box (TBase.c b0)), (1, .box (TList.c x1)), (2, .row 1 22 (send6.map c_u64)), (3, .row 4 28 (([] : List TEntry).map TEntry.c)), (4, .box (TEntry.c c32)), (5, .box (TEntry.c c37a)), (6, .row 1 22 (([c32.ID] : List Int).map c_u64))]) (next' := 7) rfl rfl rfl rfl rfl rfl rfl ?_
    refine GX.appT (c := c_u64) (L := send6) (X := ([c32.ID] : List Int)) (heap' := [(0, .box (TBase.c b0)), (1, .box (TList.c x1)), (3, .row 4 28 (([] : List TEntry).map TEntry.c)), (4, .box (TEntry.c c32)), (5, .box (TEntry.c c37a)), (6, .row 1 22 (([c32.ID] : List Int).map c_u64)), (7, .row 1 22 ((send6 ++ ([c32.ID] : List Int)).map c_u64))]) (next' := 8) rfl rfl rfl rfl (elems_own rfl) (by (have h1 := SmB.nL (by assumption); (try simp only [List.length_append, List.length_cons, List.length_nil, decide_eq_true_eq, decide_eq_false_iff_not] at *); omega)) (by ((try simp only [List.length_append, List.length_cons, List.length_nil, List.length_map, decide_eq_true_eq, decide_eq_false_iff_not] at *) <;> omega)) rfl rfl rfl rfl ?_
    refine GX.m rfl ?_
    refine GX.done ?_
    refine WK.nil (QF.normal (hK36 _ ?_))
    refine WK.regx mixed ?_
    refine GX.m rfl ?_
    refine GX.pure (v' := .int .i64 ((i8 + 1 : Nat) : Int)) rfl rfl rfl rfl (congrArg (PVal.int .i64) (wrap_up hlt21 hlen_21)) ?_
    refine GX.m rfl ?_
    refine GX.done ?_
    refine WK.nil (QF.normal ?_)
    exact hagain_21 _ (b0.L.length - (i8 + 1)) ⟨[(2, .ptr 0 0), (3, .ptr 1 0), (6, .own 2 1 0 (send6 ++ ([c32.ID] : List Int)).length), (7, .own 3 4 0 (([] : List TEntry)).length), (8, .int .i64 ((i8 + 1) : Int))], [(0, .box (TBase.c b0)), (1, .box (TList.c x1)), (2, .row 1 22 ((send6 ++ ([c32.ID] : List Int)).map c_u64)), (3, .row 4 28 (([] : List TEntry).map TEntry.c))], 4⟩ (by omega) (Conv.keep [0, 1, 7, 3] [] [2, 3, 6, 7, 8] rfl rfl (viewE_cons rfl rfl (viewE_cons rfl rfl (viewE_cons rfl rfl (viewE_cons rfl rfl (viewE_cons rfl rfl viewE_nil))))) rfl rfl) ⟨i8 + 1, (send6 ++ ([c32.ID] : List Int)), (by omega), rfl, (by ((try simp only [List.length_append, List.length_cons, List.length_nil, decide_eq_true_eq, decide_eq_false_iff_not] at *) <;> first | omega | (rw [wrap64_of (by omega) (by omega)]; omega))), hL_21, rfl⟩

theorem f34_ok (l0 : List TEntry) (hp0 : l0.length ≤ 1000) (R : (List TEntry)) (hR : F34_crossroadslaw23_rows l0 = R) : FnOk Try.prog 34 [.ro 4 (l0.map TEntry.c)] [] 0 (.ro 4 (R.map TEntry.c)) [] 0 := by
 refine FnOk.wk i34 rfl rfl ?_
 unfold F34_crossroadslaw23_rows at hR
 change WK _ _ _ [ac34] _ ⟨[(0, .ro 4 (l0.map TEntry.c))], [], 0⟩
 unfold ac34
 refine WK.sr mixed ?_
 refine GX.m rfl ?_
 refine GX.done ?_
 refine WK.sr mixed ?_
 refine GX.step (v' := .own 0 4 0 (([] : List TEntry)).length) (heap' := [(0, .row 4 28 (([] : List TEntry).map TEntry.c))]) (next' := 1) rfl rfl rfl rfl rfl rfl rfl ?_
 refine GX.m rfl ?_
 refine GX.done ?_
 refine WK.seq ?_
 refine WK.sr mixed ?_
 refine GX.m rfl ?_
 refine GX.done ?_
 refine WK.len (t := 0) rfl (by simp) (fun hlen_4 => ?_)
 rw [List.length_map] at hlen_4
 generalize hZ_4 : F34_crossroadslaw23_rows_l1 ([] : List TEntry) l0 = Z_4 at hR
 refine WK.forK (fun k s => ∃ (i4 : Nat) (out3 : List TEntry), i4 ≤ l0.length ∧ k = l0.length - i4 ∧ out3.length ≤ i4 + 0 ∧ F34_crossroadslaw23_rows_l1 out3 (l0.drop i4) = Z_4 ∧ s = ⟨[(0, .ro 4 (l0.map TEntry.c)), (3, .own 0 4 0 out3.length), (4, .int .i64 (i4 : Int))], [(0, .row 4 28 (out3.map TEntry.c))], 1⟩) l0.length ⟨⟨[(0, .ro 4 (l0.map TEntry.c)), (3, .own 0 4 0 ([] : List TEntry).length), (4, .int .i64 (0 : Int))], [(0, .row 4 28 (([] : List TEntry).map TEntry.c))], 1⟩, Conv.keep [0] [] [0, 3, 4] rfl rfl (viewE_cons rfl rfl (viewE_cons rfl rfl (viewE_cons rfl rfl viewE_nil))) rfl rfl, 0, ([] : List TEntry), (by omega), rfl, (by ((try simp only [List.length_append, List.length_cons, List.length_nil, decide_eq_true_eq, decide_eq_false_iff_not] at *) <;> first | omega | (rw [wrap64_of (by omega) (by omega)]; omega))), hZ_4, rfl⟩ ?_
 rintro _ _ ⟨i4, out3, hi_4, rfl, hinv4_out3, hL_4, rfl⟩ again_4 out_4 Q_4 hagain_4 hout_4 hQ_4
 refine WK.seq ?_
 refine WK.sr mixed ?_
 iterate 2 refine GX.m rfl ?_
 refine GX.pure (v' := .int .i64 (l0.length : Int)) rfl rfl rfl rfl (len_map _ _) ?_
 refine GX.q (.bool (decide ((i4 : Int) < (l0.length : Int)))) ?_
 refine GX.done ?_
 rcases bool_two (decide ((i4 : Int) < (l0.length : Int))) with hb5 | hb5
 ·rw [hb5]
  rw [drop_end hb5, F34_crossroadslaw23_rows_l1] at hL_4
  refine WK.condF rfl ?_
  refine WK.exit ?_
  refine QF.exit (hout_4 _ ?_)
  subst hL_4
  try dsimp only [cond_true, cond_false] at hR
  refine WK.sr mixed ?_
  iterate 2 refine GX.m rfl ?_
  refine GX.done ?_
  refine WK.ret ?_
  subst hR
  exact RetQ.fr [0] (.inr rfl) rfl rfl (viewGo_cons (view_rowT rfl rfl) viewGo_nil) rfl
 ·rw [hb5]
  obtain ⟨x4, hx4, hd4, hlt4⟩ := drop_more hb5
  rw [hd4, F34_crossroadslaw23_rows_l1] at hL_4
  refine WK.condT rfl ?_
  refine WK.skip ?_
  refine WK.seq ?_
  refine WK.blockK (fun _ hK6 => ?_)
  refine WK.regx mixed ?_
  iterate 3 refine GX.m rfl ?_
  refine GX.idxT (c := TEntry.c) (x := x4) rfl rfl rfl (Int.natCast_nonneg _) hx4 ?_
  refine GX.q (.agg (TEntry.c x4)) ?_
  generalize hc17 : F10_crossroadslaw23_entry x4 = c17 at hL_4
  try dsimp only at hL_4
  refine GX.callp (r := .agg [.int .i64 c17.Life, .int .u64 c17.ID, .int .u32 c17.Seq, .int .i64 c17.Sum]) rfl rfl rfl (f10_ok x4 _ hc17) rfl rfl ?_
  refine GX.step (v' := .own 1 4 0 (([c17] : List TEntry)).length) (heap' := [(0, .row 4 28 (out3.map TEntry.c)), (1, .row 4 28 (([c17] : List TEntry).map TEntry.c))]) (next' := 2) rfl rfl rfl rfl rfl rfl rfl ?_
  refine GX.appT (c := TEntry.c) (L := out3) (X := ([c17] : List TEntry)) (heap' := [(1, .row 4 28 (([c17] : List TEntry).map TEntry.c)), (2, .row 4 28 ((out3 ++ ([c17] : List TEntry)).map TEntry.c))]) (next' := 3) rfl rfl rfl rfl (elems_own rfl) (by ((try simp only [List.length_append, List.length_cons, List.length_nil, List.length_map, decide_eq_true_eq, decide_eq_false_iff_not] at *) <;> omega)) (by ((try simp only [List.length_append, List.length_cons, List.length_nil, List.length_map, decide_eq_true_eq, decide_eq_false_iff_not] at *) <;> omega)) rfl rfl rfl rfl ?_
  refine GX.m rfl ?_
  refine GX.done ?_
  refine WK.nil (QF.normal (hK6 _ ?_))
  refine WK.regx mixed ?_
  refine GX.m rfl ?_
  refine GX.pure (v' := .int .i64 ((i4 + 1 : Nat) : Int)) rfl rfl rfl rfl (congrArg (PVal.int .i64) (wrap_up hlt4 hlen_4)) ?_
  refine GX.m rfl ?_
  refine GX.done ?_
  refine WK.nil (QF.normal ?_)
  exact hagain_4 _ (l0.length - (i4 + 1)) ⟨[(0, .ro 4 (l0.map TEntry.c)), (3, .own 0 4 0 (out3 ++ ([c17] : List TEntry)).length), (4, .int .i64 ((i4 + 1) : Int))], [(0, .row 4 28 ((out3 ++ ([c17] : List TEntry)).map TEntry.c))], 1⟩ (by omega) (Conv.keep [2] [] [0, 3, 4] rfl rfl (viewE_cons rfl rfl (viewE_cons rfl rfl (viewE_cons rfl rfl viewE_nil))) rfl rfl) ⟨i4 + 1, (out3 ++ ([c17] : List TEntry)), (by omega), rfl, (by ((try simp only [List.length_append, List.length_cons, List.length_nil, decide_eq_true_eq, decide_eq_false_iff_not] at *) <;> first | omega | (rw [wrap64_of (by omega) (by omega)]; omega))), hL_4, rfl⟩

theorem f32_ok (x0 : TList) (hp0 : x0.L.length ≤ 1000) (R : TList) (hR : F32_crossroadslaw23_list x0 = R) : FnOk Try.prog 32 [.agg (TList.c x0)] [] 0 (.agg (TList.c R)) [] 0 := by
 refine FnOk.wk i32 rfl rfl ?_
 unfold F32_crossroadslaw23_list at hR
 change WK _ _ _ [ac32] _ ⟨[(0, .agg (TList.c x0))], [], 0⟩
 unfold ac32
 refine WK.sr mixed ?_
 refine GX.step (v' := .ptr 0 0) (heap' := [(0, .box (TList.c x0))]) (next' := 1) rfl rfl rfl rfl rfl rfl rfl ?_
 refine GX.step (v' := .ptr 1 0) (heap' := [(0, .box (TList.c x0)), (1, .box [.int .i64 0, .bool false, .int .u64 0, .int .u64 0, .int .u64 0, .nils])]) (next' := 2) rfl rfl rfl rfl rfl rfl rfl ?_
 refine GX.done ?_
 refine WK.seq ?_
 refine WK.drawn mixed ?_
 refine RD.q (.ptr 0 0) ?_
 refine RD.q (.int .i64 x0.Level) ?_
 refine RD.q (.ptr 0 1) ?_
 refine RD.q (.bool x0.Whole) ?_
 refine RD.q (.ptr 0 2) ?_
 refine RD.q (.int .u64 x0.Source) ?_
 refine RD.q (.ptr 0 3) ?_
 refine RD.q (.int .u64 x0.Low) ?_
 refine RD.q (.ptr 0 4) ?_
 refine RD.q (.int .u64 x0.High) ?_
 refine RD.q (.ptr 0 5) ?_
 refine RD.q (.ro 4 (x0.L.map TEntry.c)) ?_
 generalize hc15 : F34_crossroadslaw23_rows x0.L = c15 at hR
 try dsimp only at hR
 refine RD.callp (r := .ro 4 (c15.map TEntry.c)) rfl rfl rfl (f34_ok x0.L (by omega) _ hc15) rfl rfl ?_
 refine RD.q (.agg [.int .i64 x0.Level, .bool x0.Whole, .int .u64 x0.Source, .int .u64 x0.Low, .int .u64 x0.High, .ro 4 (c15.map TEntry.c)]) ?_
 refine RD.step0 (heap' := [(0, .box (TList.c x0)), (1, .box [.int .i64 x0.Level, .bool x0.Whole, .int .u64 x0.Source, .int .u64 x0.Low, .int .u64 x0.High, .ro 4 (c15.map TEntry.c)])]) (next' := 2) rfl rfl rfl rfl rfl ?_
 refine RD.done rfl ?_
 refine WK.ret ?_
 subst hR
 exact RetQ.fr [] (.inr rfl) rfl rfl rfl rfl

theorem f33_ok (a0 : List TEntry) (b1 : List TEntry) (R : Bool) (hR : F33_crossroadsref22_Entries a0 b1 = R) : FnOk Try.prog 33 [.ro 4 (a0.map TEntry.c), .ro 4 (b1.map TEntry.c)] [] 0 (.bool R) [] 0 := by
 refine FnOk.wk i33 rfl rfl ?_
 unfold F33_crossroadsref22_Entries at hR
 change WK _ _ _ [ac33] _ ⟨[(0, .ro 4 (a0.map TEntry.c)), (1, .ro 4 (b1.map TEntry.c))], [], 0⟩
 unfold ac33
 refine WK.sr mixed ?_
 refine GX.m rfl ?_
 refine GX.done ?_
 refine WK.seq ?_
 refine WK.sr mixed ?_
 refine GX.m rfl ?_
 refine GX.pure (v' := .int .i64 (a0.length : Int)) rfl rfl rfl rfl (len_map _ _) ?_
 refine GX.m rfl ?_
 refine GX.pure (v' := .int .i64 (b1.length : Int)) rfl rfl rfl rfl (len_map _ _) ?_
 refine GX.q (.bool (!decide ((a0.length : Int) = (b1.length : Int)))) ?_
 refine GX.done ?_
 rcases bool_two (decide ((a0.length : Int) = (b1.length : Int))) with hb1 | hb1
 ·rw [hb1]; try simp only [hb1, bb] at hR
  refine WK.condT rfl ?_
  refine WK.sr mixed ?_
  refine GX.m rfl ?_
  refine GX.done ?_
  refine WK.ret ?_
  subst hR
  exact RetQ.fr [] (.inr rfl) rfl rfl rfl rfl
 ·rw [hb1]; try simp only [hb1, bb] at hR
  refine WK.condF rfl ?_
  refine WK.skip ?_
  refine WK.seq ?_
  refine WK.sr mixed ?_
  refine GX.m rfl ?_
  refine GX.done ?_
  refine WK.len (t := 0) rfl (by simp) (fun hlen_2 => ?_)
  rw [List.length_map] at hlen_2
  generalize hZ_2 : F33_crossroadsref22_Entries_l1 b1 0 a0 = Z_2 at hR
  refine WK.forK (fun k s => ∃ (i5 : Nat), i5 ≤ a0.length ∧ k = a0.length - i5 ∧ F33_crossroadsref22_Entries_l1 b1 i5 (a0.drop i5) = Z_2 ∧ s = ⟨[(0, .ro 4 (a0.map TEntry.c)), (1, .ro 4 (b1.map TEntry.c)), (5, .int .i64 (i5 : Int))], [], 0⟩) a0.length ⟨⟨[(0, .ro 4 (a0.map TEntry.c)), (1, .ro 4 (b1.map TEntry.c)), (5, .int .i64 (0 : Int))], [], 0⟩, Conv.keep [] [] [0, 1, 5] rfl rfl (viewE_cons rfl rfl (viewE_cons rfl rfl (viewE_cons rfl rfl viewE_nil))) rfl rfl, 0, (by omega), rfl, hZ_2, rfl⟩ ?_
  rintro _ _ ⟨i5, hi_2, rfl, hL_2, rfl⟩ again_2 out_2 Q_2 hagain_2 hout_2 hQ_2
  refine WK.seq ?_
  refine WK.sr mixed ?_
  iterate 2 refine GX.m rfl ?_
  refine GX.pure (v' := .int .i64 (a0.length : Int)) rfl rfl rfl rfl (len_map _ _) ?_
  refine GX.q (.bool (decide ((i5 : Int) < (a0.length : Int)))) ?_
  refine GX.done ?_
  rcases bool_two (decide ((i5 : Int) < (a0.length : Int))) with hb3 | hb3
  ·rw [hb3]
   rw [drop_end hb3, F33_crossroadsref22_Entries_l1] at hL_2
   refine WK.condF rfl ?_
   refine WK.exit ?_
   refine QF.exit (hout_2 _ ?_)
   subst hL_2
   try dsimp only [cond_true, cond_false] at hR
   refine WK.sr mixed ?_
   refine GX.m rfl ?_
   refine GX.done ?_
   refine WK.ret ?_
   subst hR
   exact RetQ.fr [] (.inr rfl) rfl rfl rfl rfl
  ·rw [hb3]
   obtain ⟨x5, hx2, hd2, hlt2⟩ := drop_more hb3
   rw [hd2, F33_crossroadsref22_Entries_l1] at hL_2
   refine WK.condT rfl ?_
   refine WK.skip ?_
   refine WK.seq ?_
   refine WK.blockK (fun _ hK4 => ?_)
   refine WK.seq ?_
   refine WK.drawn mixed ?_
   iterate 2 refine RD.m rfl ?_
   refine RD.idxT (c := TEntry.c) (x := x5) rfl rfl rfl (Int.natCast_nonneg _) hx2 ?_
   refine RD.q (.agg (TEntry.c x5)) ?_
   iterate 2 refine RD.m rfl ?_
   refine RD.idxT (c := TEntry.c) (x := (b1.getD i5 default)) rfl rfl rfl (Int.natCast_nonneg _) (getD_at (by ((try simp only [decide_eq_true_eq] at *); first | omega | (rw [wrap64_of (by omega) (by omega)]; omega)))) ?_
   refine RD.q (.agg [.int .i64 ((b1.getD i5 default).Life), .int .u64 ((b1.getD i5 default).ID), .int .u32 ((b1.getD i5 default).Seq), .int .i64 ((b1.getD i5 default).Sum)]) ?_
   refine RD.q (.bool (!(decide (x5.Life = (b1.getD i5 default).Life) && (decide (x5.ID = (b1.getD i5 default).ID) && (decide (x5.Seq = (b1.getD i5 default).Seq) && (decide (x5.Sum = (b1.getD i5 default).Sum) && true)))))) ?_
   refine RD.done rfl ?_
   rcases bool_two (decide (x5.Life = (b1.getD i5 default).Life) && (decide (x5.ID = (b1.getD i5 default).ID) && (decide (x5.Seq = (b1.getD i5 default).Seq) && (decide (x5.Sum = (b1.getD i5 default).Sum) && true)))) with hb5 | hb5
   ·rw [hb5]; try simp only [hb5, bb] at hL_2
    refine WK.condT rfl ?_
    refine WK.sr mixed ?_
    refine GX.m rfl ?_
    refine GX.done ?_
    refine WK.ret ?_
    refine QF.ret ?_
    refine QF.ret (hQ_2 _ _ ?_)
    subst hL_2
    subst hR
    exact RetQ.fr [] (.inr rfl) rfl rfl rfl rfl
   ·rw [hb5]; try simp only [hb5, bb] at hL_2
    refine WK.condF rfl ?_
    refine WK.skip ?_
    refine WK.nil (QF.normal (hK4 _ ?_))
    refine WK.regx mixed ?_
    refine GX.m rfl ?_
    refine GX.pure (v' := .int .i64 ((i5 + 1 : Nat) : Int)) rfl rfl rfl rfl (congrArg (PVal.int .i64) (wrap_up hlt2 hlen_2)) ?_
    refine GX.m rfl ?_
    refine GX.done ?_
    refine WK.nil (QF.normal ?_)
    exact hagain_2 _ (a0.length - (i5 + 1)) ⟨[(0, .ro 4 (a0.map TEntry.c)), (1, .ro 4 (b1.map TEntry.c)), (5, .int .i64 ((i5 + 1) : Int))], [], 0⟩ (by omega) (Conv.keep [] [] [0, 1, 5] rfl rfl (viewE_cons rfl rfl (viewE_cons rfl rfl (viewE_cons rfl rfl viewE_nil))) rfl rfl) ⟨i5 + 1, (by omega), rfl, hL_2, rfl⟩

end Go.Proofs.Ytpcpclbdajebjaa.Abs
