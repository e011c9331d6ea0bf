/- The functions walked: each computes its Lean function (printed by this work's own program gen.py). -/
import Derived.Test.YtpcpclbdajebjaaSz
import Derived.Test.YtpcpclbdajebjaaW1
import Derived.Test.YtpcpclbdajebjaaW2
set_option linter.unusedVariables false
set_option linter.unusedSimpArgs false
set_option maxRecDepth 10000
set_option maxHeartbeats 4000000
namespace Go.Proofs.Ytpcpclbdajebjaa.Abs
open Go

theorem f35_ok (b0 : TBase) (low1 : Int) (high2 : Int) (hp0 : SmB b0) (R : (List TEntry)) (hR : F35_crossroadsref23_List b0 low1 high2 = R) : FnOk Try.prog 35 [.agg (TBase.c b0), .int .u64 low1, .int .u64 high2] [] 0 (.ro 4 (R.map TEntry.c)) [] 0 := by
 refine FnOk.wk i35 rfl rfl ?_
 unfold F35_crossroadsref23_List at hR
 change WK _ _ _ [ac35] _ ⟨[(0, .agg (TBase.c b0)), (1, .int .u64 low1), (2, .int .u64 high2)], [], 0⟩
 unfold ac35
 refine WK.sr mixed ?_
 refine GX.step (v' := .ptr 0 0) (heap' := [(0, .box (TBase.c b0))]) (next' := 1) rfl rfl rfl rfl rfl rfl rfl ?_
 refine GX.m rfl ?_
 refine GX.done ?_
 refine WK.sr mixed ?_
 refine GX.step (v' := .own 1 4 0 (([] : List TEntry)).length) (heap' := [(0, .box (TBase.c b0)), (1, .row 4 28 (([] : List TEntry).map TEntry.c))]) (next' := 2) rfl rfl rfl rfl rfl rfl rfl ?_
 refine GX.m rfl ?_
 refine GX.done ?_
 refine WK.seq ?_
 refine WK.sr mixed ?_
 refine GX.m rfl ?_
 refine GX.done ?_
 refine WK.lenb (id := 0) (j := 2) rfl rfl (by simp) (fun hlen_6 => ?_)
 rw [List.length_map] at hlen_6
 generalize hZ_6 : F35_crossroadsref23_List_l1 low1 high2 ([] : List TEntry) b0.L = Z_6 at hR
 refine WK.forK (fun k s => ∃ (i8 : Nat) (out7 : List TEntry), i8 ≤ b0.L.length ∧ k = b0.L.length - i8 ∧ out7.length ≤ i8 + 0 ∧ F35_crossroadsref23_List_l1 low1 high2 out7 (b0.L.drop i8) = Z_6 ∧ s = ⟨[(1, .int .u64 low1), (2, .int .u64 high2), (3, .ptr 0 0), (7, .own 1 4 0 out7.length), (8, .int .i64 (i8 : Int))], [(0, .box (TBase.c b0)), (1, .row 4 28 (out7.map TEntry.c))], 2⟩) b0.L.length ⟨⟨[(1, .int .u64 low1), (2, .int .u64 high2), (3, .ptr 0 0), (7, .own 1 4 0 ([] : List TEntry).length), (8, .int .i64 (0 : Int))], [(0, .box (TBase.c b0)), (1, .row 4 28 (([] : List TEntry).map TEntry.c))], 2⟩, Conv.keep [0, 1] [] [1, 2, 3, 7, 8] rfl rfl (viewE_cons rfl rfl (viewE_cons rfl rfl (viewE_cons rfl rfl (viewE_cons rfl rfl (viewE_cons rfl rfl viewE_nil))))) rfl rfl, 0, ([] : List TEntry), (by omega), rfl, (by ((try simp only [List.length_append, List.length_cons, List.length_nil, decide_eq_true_eq, decide_eq_false_iff_not] at *) <;> first | omega | (rw [wrap64_of (by omega) (by omega)]; omega))), hZ_6, rfl⟩ ?_
 rintro _ _ ⟨i8, out7, hi_6, rfl, hinv6_out7, hL_6, rfl⟩ again_6 out_6 Q_6 hagain_6 hout_6 hQ_6
 refine WK.seq ?_
 refine WK.sr mixed ?_
 refine GX.m rfl ?_
 refine GX.q (.ptr 0 2) ?_
 refine GX.q (.ro 7 (b0.L.map TLsp.c)) ?_
 refine GX.pure (v' := .int .i64 (b0.L.length : Int)) rfl rfl rfl rfl (len_map _ _) ?_
 refine GX.q (.bool (decide ((i8 : Int) < (b0.L.length : Int)))) ?_
 refine GX.done ?_
 rcases bool_two (decide ((i8 : Int) < (b0.L.length : Int))) with hb7 | hb7
 ·rw [hb7]
  rw [drop_end hb7, F35_crossroadsref23_List_l1] at hL_6
  refine WK.condF rfl ?_
  refine WK.exit ?_
  refine QF.exit (hout_6 _ ?_)
  subst hL_6
  try dsimp only [cond_true, cond_false] at hR
  refine WK.sr mixed ?_
  iterate 2 refine GX.m rfl ?_
  refine GX.done ?_
  refine WK.ret ?_
  subst hR
  exact RetQ.fr [1] (.inr rfl) rfl rfl (viewGo_cons (view_rowT rfl rfl) viewGo_nil) rfl
 ·rw [hb7]
  obtain ⟨x8, hx6, hd6, hlt6⟩ := drop_more hb7
  rw [hd6, F35_crossroadsref23_List_l1] at hL_6
  refine WK.condT rfl ?_
  refine WK.skip ?_
  refine WK.seq ?_
  refine WK.blockK (fun _ hK8 => ?_)
  refine WK.sr mixed ?_
  refine GX.q (.ptr 0 2) ?_
  refine GX.q (.ro 7 (b0.L.map TLsp.c)) ?_
  refine GX.m rfl ?_
  refine GX.idxT (c := TLsp.c) (x := x8) rfl rfl rfl (Int.natCast_nonneg _) hx6 ?_
  refine GX.q (.rptr [.int .u64 x8.ID, .int .u32 x8.Seq, .int .i64 x8.Sum, .int .i64 x8.Bits, .ro 2 (x8.Things.map TThing.c)]) ?_
  refine GX.q (.int .u64 x8.ID) ?_
  refine GX.m rfl ?_
  refine GX.q (.bool (decide (low1 ≤ x8.ID))) ?_
  refine GX.m rfl ?_
  rcases bool_two (decide (low1 ≤ x8.ID)) with hb9 | hb9
  ·rw [hb9]; try simp only [hb9, bb] at hL_6
   iterate 8 refine GX.skip rfl rfl ?_
   refine GX.q (.bool false) ?_
   refine GX.done ?_
   refine WK.condF rfl ?_
   refine WK.skip ?_
   refine WK.nil (QF.normal (hK8 _ ?_))
   refine WK.regx mixed ?_
   refine GX.m rfl ?_
   refine GX.pure (v' := .int .i64 ((i8 + 1 : Nat) : Int)) rfl rfl rfl rfl (congrArg (PVal.int .i64) (wrap_up hlt6 hlen_6)) ?_
   refine GX.m rfl ?_
   refine GX.done ?_
   refine WK.nil (QF.normal ?_)
   exact hagain_6 _ (b0.L.length - (i8 + 1)) ⟨[(1, .int .u64 low1), (2, .int .u64 high2), (3, .ptr 0 0), (7, .own 1 4 0 out7.length), (8, .int .i64 ((i8 + 1) : Int))], [(0, .box (TBase.c b0)), (1, .row 4 28 (out7.map TEntry.c))], 2⟩ (by omega) (Conv.keep [0, 1] [] [1, 2, 3, 7, 8] rfl rfl (viewE_cons rfl rfl (viewE_cons rfl rfl (viewE_cons rfl rfl (viewE_cons rfl rfl (viewE_cons rfl rfl viewE_nil))))) rfl rfl) ⟨i8 + 1, out7, (by omega), rfl, (by omega), hL_6, rfl⟩
  ·rw [hb9]; try simp only [hb9, bb] at hL_6
   refine GX.q (.ptr 0 2) ?_
   refine GX.q (.ro 7 (b0.L.map TLsp.c)) ?_
   refine GX.m rfl ?_
   refine GX.idxT (c := TLsp.c) (x := x8) rfl rfl rfl (Int.natCast_nonneg _) hx6 ?_
   refine GX.q (.rptr [.int .u64 x8.ID, .int .u32 x8.Seq, .int .i64 x8.Sum, .int .i64 x8.Bits, .ro 2 (x8.Things.map TThing.c)]) ?_
   refine GX.q (.int .u64 x8.ID) ?_
   refine GX.m rfl ?_
   iterate 2 refine GX.q (.bool (decide (x8.ID ≤ high2))) ?_
   refine GX.done ?_
   rcases bool_two (decide (x8.ID ≤ high2)) with hb10 | hb10
   ·rw [hb10]; try simp only [hb10, bb] at hL_6
    refine WK.condF rfl ?_
    refine WK.skip ?_
    refine WK.nil (QF.normal (hK8 _ ?_))
    refine WK.regx mixed ?_
    refine GX.m rfl ?_
    refine GX.pure (v' := .int .i64 ((i8 + 1 : Nat) : Int)) rfl rfl rfl rfl (congrArg (PVal.int .i64) (wrap_up hlt6 hlen_6)) ?_
    refine GX.m rfl ?_
    refine GX.done ?_
    refine WK.nil (QF.normal ?_)
    exact hagain_6 _ (b0.L.length - (i8 + 1)) ⟨[(1, .int .u64 low1), (2, .int .u64 high2), (3, .ptr 0 0), (7, .own 1 4 0 out7.length), (8, .int .i64 ((i8 + 1) : Int))], [(0, .box (TBase.c b0)), (1, .row 4 28 (out7.map TEntry.c))], 2⟩ (by omega) (Conv.keep [0, 1] [] [1, 2, 3, 7, 8] rfl rfl (viewE_cons rfl rfl (viewE_cons rfl rfl (viewE_cons rfl rfl (viewE_cons rfl rfl (viewE_cons rfl rfl viewE_nil))))) rfl rfl) ⟨i8 + 1, out7, (by omega), rfl, (by omega), hL_6, rfl⟩
   ·rw [hb10]; try simp only [hb10, bb] at hL_6
    refine WK.condT rfl ?_
    refine WK.regx mixed ?_
    refine GX.m rfl ?_
    refine GX.q (.ptr 0 2) ?_
    refine GX.q (.ro 7 (b0.L.map TLsp.c)) ?_
    refine GX.m rfl ?_
    refine GX.idxT (c := TLsp.c) (x := x8) rfl rfl rfl (Int.natCast_nonneg _) hx6 ?_
    refine GX.q (.agg (TLsp.c x8)) ?_
    generalize hc41 : F56_crossroadsref23_Entry x8 = c41 at hL_6
    try dsimp only at hL_6
    refine GX.callp (r := .agg [.int .i64 c41.Life, .int .u64 c41.ID, .int .u32 c41.Seq, .int .i64 c41.Sum]) rfl rfl rfl (f56_ok x8 _ hc41) rfl rfl ?_
    refine GX.step (v' := .own 2 4 0 (([c41] : List TEntry)).length) (heap' := [(0, .box (TBase.c b0)), (1, .row 4 28 (out7.map TEntry.c)), (2, .row 4 28 (([c41] : List TEntry).map TEntry.c))]) (next' := 3) rfl rfl rfl rfl rfl rfl rfl ?_
    refine GX.appT (c := TEntry.c) (L := out7) (X := ([c41] : List TEntry)) (heap' := [(0, .box (TBase.c b0)), (2, .row 4 28 (([c41] : List TEntry).map TEntry.c)), (3, .row 4 28 ((out7 ++ ([c41] : List TEntry)).map TEntry.c))]) (next' := 4) rfl rfl rfl rfl (elems_own rfl) (by (have h1 := SmB.nL (by assumption); (try simp only [List.length_append, List.length_cons, List.length_nil, decide_eq_true_eq, decide_eq_false_iff_not] at *); omega)) (by ((try simp only [List.length_append, List.length_cons, List.length_nil, List.length_map, decide_eq_true_eq, decide_eq_false_iff_not] at *) <;> omega)) rfl rfl rfl rfl ?_
    refine GX.m rfl ?_
    refine GX.done ?_
    refine WK.nil (QF.normal (hK8 _ ?_))
    refine WK.regx mixed ?_
    refine GX.m rfl ?_
    refine GX.pure (v' := .int .i64 ((i8 + 1 : Nat) : Int)) rfl rfl rfl rfl (congrArg (PVal.int .i64) (wrap_up hlt6 hlen_6)) ?_
    refine GX.m rfl ?_
    refine GX.done ?_
    refine WK.nil (QF.normal ?_)
    exact hagain_6 _ (b0.L.length - (i8 + 1)) ⟨[(1, .int .u64 low1), (2, .int .u64 high2), (3, .ptr 0 0), (7, .own 1 4 0 (out7 ++ ([c41] : List TEntry)).length), (8, .int .i64 ((i8 + 1) : Int))], [(0, .box (TBase.c b0)), (1, .row 4 28 ((out7 ++ ([c41] : List TEntry)).map TEntry.c))], 2⟩ (by omega) (Conv.keep [0, 3] [] [1, 2, 3, 7, 8] rfl rfl (viewE_cons rfl rfl (viewE_cons rfl rfl (viewE_cons rfl rfl (viewE_cons rfl rfl (viewE_cons rfl rfl viewE_nil))))) rfl rfl) ⟨i8 + 1, (out7 ++ ([c41] : List TEntry)), (by omega), rfl, (by ((try simp only [List.length_append, List.length_cons, List.length_nil, decide_eq_true_eq, decide_eq_false_iff_not] at *) <;> first | omega | (rw [wrap64_of (by omega) (by omega)]; omega))), hL_6, rfl⟩

theorem f36_ok (b0 : TBase) (hp0 : SmB b0) (R : Bool) (hR : F36_link_May b0 = R) : FnOk Try.prog 36 [.agg (TBase.c b0)] [] 0 (.bool R) [] 0 := by
 refine FnOk.wk i36 rfl rfl ?_
 unfold F36_link_May at hR
 change WK _ _ _ [ac36] _ ⟨[(0, .agg (TBase.c b0))], [], 0⟩
 unfold ac36
 refine WK.sr mixed ?_
 refine GX.step (v' := .ptr 0 0) (heap' := [(0, .box (TBase.c b0))]) (next' := 1) rfl rfl rfl rfl rfl rfl rfl ?_
 refine GX.m rfl ?_
 refine GX.done ?_
 refine WK.seq ?_
 refine WK.sr mixed ?_
 refine GX.q (.ptr 0 2) ?_
 refine GX.q (.ro 7 (b0.L.map TLsp.c)) ?_
 refine GX.pure (v' := .int .i64 (b0.L.length : Int)) rfl rfl rfl rfl (len_map _ _) ?_
 refine GX.m rfl ?_
 refine GX.done ?_
 refine WK.len (t := 8) rfl (by simp) (fun hlen_1 => ?_)
 rw [List.length_map] at hlen_1
 generalize hZ_1 : F36_link_May_l1 b0 0 b0.L = Z_1 at hR
 refine WK.forK (fun k s => ∃ (i10 : Nat), i10 ≤ b0.L.length ∧ k = b0.L.length - i10 ∧ F36_link_May_l1 b0 i10 (b0.L.drop i10) = Z_1 ∧ s = ⟨[(1, .ptr 0 0), (8, .ro 7 (b0.L.map TLsp.c)), (9, .int .i64 (b0.L.length : Int)), (10, .int .i64 (i10 : Int))], [(0, .box (TBase.c b0))], 1⟩) b0.L.length ⟨⟨[(1, .ptr 0 0), (8, .ro 7 (b0.L.map TLsp.c)), (9, .int .i64 (b0.L.length : Int)), (10, .int .i64 (0 : Int))], [(0, .box (TBase.c b0))], 1⟩, Conv.keep [0] [] [1, 8, 9, 10] rfl rfl (viewE_cons rfl rfl (viewE_cons rfl rfl (viewE_cons rfl rfl (viewE_cons rfl rfl viewE_nil)))) rfl rfl, 0, (by omega), rfl, hZ_1, rfl⟩ ?_
 rintro _ _ ⟨i10, hi_1, rfl, hL_1, rfl⟩ again_1 out_1 Q_1 hagain_1 hout_1 hQ_1
 refine WK.sr mixed ?_
 refine GX.q (.bool (decide ((i10 : Int) < (b0.L.length : Int)))) ?_
 refine GX.done ?_
 refine WK.seq ?_
 rcases bool_two (decide ((i10 : Int) < (b0.L.length : Int))) with hb2 | hb2
 ·rw [hb2]
  rw [drop_end hb2, F36_link_May_l1] at hL_1
  refine WK.condF rfl ?_
  refine WK.exit ?_
  refine QF.exit (hout_1 _ ?_)
  subst hL_1
  try dsimp only [cond_true, cond_false] at hR
  refine WK.sr mixed ?_
  refine GX.q (.ptr 0 0) ?_
  refine GX.q (.int .i64 b0.Level) ?_
  refine GX.q (.ptr 0 1) ?_
  refine GX.q (.int .i64 b0.Max) ?_
  generalize hc41 : F24_link_New b0.Level b0.Max = c41 at hR
  have hpo0_c41 := post_New1 b0.Level b0.Max; rw [hc41] at hpo0_c41
  have hpo1_c41 := post_New2 b0.Level b0.Max; rw [hc41] at hpo1_c41
  obtain ⟨c41a, c41b⟩ := c41; try dsimp only at hR; try dsimp only at hpo0_c41; try dsimp only at hpo1_c41
  refine GX.callp (r := .tup [.agg [.int .i64 c41a.Level, .int .i64 c41a.Max, .ro 7 (c41a.L.map TLsp.c), .bool c41a.Over], .int .i64 c41b]) rfl rfl rfl (f24_ok b0.Level b0.Max _ hc41) rfl rfl ?_
  refine GX.m rfl ?_
  refine GX.q (.agg [.int .i64 c41a.Level, .int .i64 c41a.Max, .ro 7 (c41a.L.map TLsp.c), .bool c41a.Over]) ?_
  refine GX.q (.int .i64 c41b) ?_
  refine GX.step (v' := .ptr 1 0) (heap' := [(0, .box (TBase.c b0)), (1, .box [.int .i64 0, .int .i64 0, .nils, .bool false])]) (next' := 2) rfl rfl rfl rfl rfl rfl rfl ?_
  refine GX.step0 (heap' := [(0, .box (TBase.c b0)), (1, .box (TBase.c c41a))]) (next' := 2) rfl rfl rfl rfl rfl ?_
  refine GX.m rfl ?_
  refine GX.done ?_
  refine WK.sr mixed ?_
  refine GX.m rfl ?_
  refine GX.q (.bool (decide (c41b = 0))) ?_
  refine GX.m rfl ?_
  rcases bool_two (decide (c41b = 0)) with hb3 | hb3
  ·rw [hb3]; try simp only [hb3, bb] at hR
   iterate 6 refine GX.skip rfl rfl ?_
   refine GX.q (.bool false) ?_
   refine GX.m rfl ?_
   refine GX.done ?_
   refine WK.ret ?_
   subst hR
   exact RetQ.fr [] (.inr rfl) rfl rfl rfl rfl
  ·rw [hb3]; try simp only [hb3, bb] at hR
   refine GX.q (.ptr 0 2) ?_
   refine GX.q (.ro 7 (b0.L.map TLsp.c)) ?_
   refine GX.pure (v' := .int .i64 (b0.L.length : Int)) rfl rfl rfl rfl (len_map _ _) ?_
   refine GX.q (.ptr 0 1) ?_
   refine GX.q (.int .i64 b0.Max) ?_
   iterate 2 refine GX.q (.bool (decide ((b0.L.length : Int) ≤ b0.Max))) ?_
   refine GX.m rfl ?_
   refine GX.done ?_
   refine WK.ret ?_
   subst hR
   exact RetQ.fr [] (.inr rfl) rfl rfl rfl rfl
 ·rw [hb2]
  obtain ⟨x10, hx1, hd1, hlt1⟩ := drop_more hb2
  rw [hd1, F36_link_May_l1] at hL_1
  refine WK.condT rfl ?_
  refine WK.skip ?_
  refine WK.seq ?_
  refine WK.blockK (fun _ hK4 => ?_)
  refine WK.sr mixed ?_
  refine GX.m rfl ?_
  refine GX.idxT (c := TLsp.c) (x := x10) rfl rfl rfl (Int.natCast_nonneg _) hx1 ?_
  refine GX.q (.agg (TLsp.c x10)) ?_
  refine GX.step (v' := .ptr 1 0) (heap' := [(0, .box (TBase.c b0)), (1, .box [.int .i64 0, .int .i64 0, .int .u64 0, .int .u32 0, .int .i64 0, .int .i64 0, .nils])]) (next' := 2) rfl rfl rfl rfl rfl rfl rfl ?_
  refine GX.m rfl ?_
  refine GX.step0 (heap' := [(0, .box (TBase.c b0)), (1, .box (TLsp.c x10))]) (next' := 2) rfl rfl rfl rfl rfl ?_
  refine GX.done ?_
  refine WK.seq ?_
  refine WK.drawn mixed ?_
  refine RD.q (.agg (TBase.c b0)) ?_
  refine RD.q (.agg (TLsp.c x10)) ?_
  generalize hc17 : F48_link_Base_isOf b0 x10 = c17 at hL_1
  try dsimp only at hL_1
  refine RD.callp (r := .bool c17) rfl rfl rfl (f48_ok b0 x10 (by exact SmB.at2 (by assumption) (by assumption)) _ hc17) rfl rfl ?_
  refine RD.q (.bool (!c17)) ?_
  refine RD.m rfl ?_
  rcases bool_two (c17) with hb5 | hb5
  ·rw [hb5]; try simp only [hb5, bb] at hL_1
   iterate 14 refine RD.skip rfl rfl ?_
   refine RD.q (.bool true) ?_
   refine RD.done rfl ?_
   refine WK.condT rfl ?_
   refine WK.sr mixed ?_
   refine GX.m rfl ?_
   refine GX.done ?_
   refine WK.ret ?_
   refine QF.ret ?_
   refine QF.ret (hQ_1 _ _ ?_)
   subst hL_1
   subst hR
   exact RetQ.fr [] (.inr rfl) rfl rfl rfl rfl
  ·rw [hb5]; try simp only [hb5, bb] at hL_1
   refine RD.m rfl ?_
   refine RD.q (.bool (decide (0 < (i10 : Int)))) ?_
   refine RD.m rfl ?_
   rcases bool_two (decide (0 < (i10 : Int))) with hb6 | hb6
   ·rw [hb6]; try simp only [hb6, bb] at hL_1
    iterate 10 refine RD.skip rfl rfl ?_
    iterate 2 refine RD.q (.bool false) ?_
    refine RD.done rfl ?_
    refine WK.condF rfl ?_
    refine WK.skip ?_
    refine WK.nil (QF.normal (hK4 _ ?_))
    refine WK.regx mixed ?_
    refine GX.pure (v' := .int .i64 ((i10 + 1 : Nat) : Int)) rfl rfl rfl rfl (congrArg (PVal.int .i64) (wrap_up hlt1 hlen_1)) ?_
    refine GX.m rfl ?_
    refine GX.done ?_
    refine WK.nil (QF.normal ?_)
    exact hagain_1 _ (b0.L.length - (i10 + 1)) ⟨[(1, .ptr 0 0), (8, .ro 7 (b0.L.map TLsp.c)), (9, .int .i64 (b0.L.length : Int)), (10, .int .i64 ((i10 + 1) : Int))], [(0, .box (TBase.c b0))], 1⟩ (by omega) (Conv.keep [0] [] [1, 8, 9, 10] rfl rfl (viewE_cons rfl rfl (viewE_cons rfl rfl (viewE_cons rfl rfl (viewE_cons rfl rfl viewE_nil)))) rfl rfl) ⟨i10 + 1, (by omega), rfl, hL_1, rfl⟩
   ·rw [hb6]; try simp only [hb6, bb] at hL_1
    refine RD.q (.ptr 0 2) ?_
    refine RD.q (.ro 7 (b0.L.map TLsp.c)) ?_
    refine RD.m rfl ?_
    refine RD.pure (v' := .int .i64 ((i10 - 1 : Nat) : Int)) rfl rfl rfl rfl (congrArg (PVal.int .i64) (wrap_down hb6 hlt1 hlen_1)) ?_
    refine RD.idxT (c := TLsp.c) (x := (b0.L.getD (i10 - 1) default)) rfl rfl rfl (Int.natCast_nonneg _) (getD_at (by omega)) ?_
    refine RD.q (.rptr [.int .u64 ((b0.L.getD (i10 - 1) default).ID), .int .u32 ((b0.L.getD (i10 - 1) default).Seq), .int .i64 ((b0.L.getD (i10 - 1) default).Sum), .int .i64 ((b0.L.getD (i10 - 1) default).Bits), .ro 2 (((b0.L.getD (i10 - 1) default).Things).map TThing.c)]) ?_
    refine RD.q (.int .u64 ((b0.L.getD (i10 - 1) default).ID)) ?_
    refine RD.q (.ptr 1 2) ?_
    refine RD.q (.int .u64 x10.ID) ?_
    iterate 3 refine RD.q (.bool (decide (x10.ID ≤ (b0.L.getD (i10 - 1) default).ID))) ?_
    refine RD.done rfl ?_
    rcases bool_two (decide (x10.ID ≤ (b0.L.getD (i10 - 1) default).ID)) with hb7 | hb7
    ·rw [hb7]; try simp only [hb7, bb] at hL_1
     refine WK.condF rfl ?_
     refine WK.skip ?_
     refine WK.nil (QF.normal (hK4 _ ?_))
     refine WK.regx mixed ?_
     refine GX.pure (v' := .int .i64 ((i10 + 1 : Nat) : Int)) rfl rfl rfl rfl (congrArg (PVal.int .i64) (wrap_up hlt1 hlen_1)) ?_
     refine GX.m rfl ?_
     refine GX.done ?_
     refine WK.nil (QF.normal ?_)
     exact hagain_1 _ (b0.L.length - (i10 + 1)) ⟨[(1, .ptr 0 0), (8, .ro 7 (b0.L.map TLsp.c)), (9, .int .i64 (b0.L.length : Int)), (10, .int .i64 ((i10 + 1) : Int))], [(0, .box (TBase.c b0))], 1⟩ (by omega) (Conv.keep [0] [] [1, 8, 9, 10] rfl rfl (viewE_cons rfl rfl (viewE_cons rfl rfl (viewE_cons rfl rfl (viewE_cons rfl rfl viewE_nil)))) rfl rfl) ⟨i10 + 1, (by omega), rfl, hL_1, rfl⟩
    ·rw [hb7]; try simp only [hb7, bb] at hL_1
     refine WK.condT rfl ?_
     refine WK.sr mixed ?_
     refine GX.m rfl ?_
     refine GX.done ?_
     refine WK.ret ?_
     refine QF.ret ?_
     refine QF.ret (hQ_1 _ _ ?_)
     subst hL_1
     subst hR
     exact RetQ.fr [] (.inr rfl) rfl rfl rfl rfl

theorem f7_ok (size0 : TS) (script1 : List TAct) (x2 : TList) (R : Bool) (hR : F7_crossroadslaw23_LinkPlays size0 script1 x2 = R) : FnOk Try.prog 7 [.agg (TS.c size0), .ro 9 (script1.map TAct.c), .agg (TList.c x2)] [] 0 (.bool R) [] 0 := by
 refine FnOk.wk i7 rfl rfl ?_
 unfold F7_crossroadslaw23_LinkPlays at hR
 change WK _ _ _ [ac7] _ ⟨[(0, .agg (TS.c size0)), (1, .ro 9 (script1.map TAct.c)), (2, .agg (TList.c x2))], [], 0⟩
 unfold ac7
 refine WK.sr mixed ?_
 refine GX.step (v' := .ptr 0 0) (heap' := [(0, .box (TS.c size0))]) (next' := 1) rfl rfl rfl rfl rfl rfl rfl ?_
 refine GX.step (v' := .ptr 1 0) (heap' := [(0, .box (TS.c size0)), (1, .box (TList.c x2))]) (next' := 2) rfl rfl rfl rfl rfl rfl rfl ?_
 refine GX.m rfl ?_
 refine GX.done ?_
 refine WK.sr mixed ?_
 refine GX.q (.ptr 0 0) ?_
 refine GX.q (.int .i64 size0.e0) ?_
 refine GX.q (.ptr 0 1) ?_
 refine GX.q (.int .i64 size0.e1) ?_
 generalize hc34 : F24_link_New size0.e0 size0.e1 = c34 at hR
 have hpo0_c34 := post_New1 size0.e0 size0.e1; rw [hc34] at hpo0_c34
 have hpo1_c34 := post_New2 size0.e0 size0.e1; rw [hc34] at hpo1_c34
 obtain ⟨c34a, c34b⟩ := c34; try dsimp only at hR; try dsimp only at hpo0_c34; try dsimp only at hpo1_c34
 refine GX.callp (r := .tup [.agg [.int .i64 c34a.Level, .int .i64 c34a.Max, .ro 7 (c34a.L.map TLsp.c), .bool c34a.Over], .int .i64 c34b]) rfl rfl rfl (f24_ok size0.e0 size0.e1 _ hc34) rfl rfl ?_
 refine GX.m rfl ?_
 refine GX.q (.agg [.int .i64 c34a.Level, .int .i64 c34a.Max, .ro 7 (c34a.L.map TLsp.c), .bool c34a.Over]) ?_
 refine GX.q (.int .i64 c34b) ?_
 refine GX.step (v' := .ptr 2 0) (heap' := [(0, .box (TS.c size0)), (1, .box (TList.c x2)), (2, .box [.int .i64 0, .int .i64 0, .nils, .bool false])]) (next' := 3) rfl rfl rfl rfl rfl rfl rfl ?_
 refine GX.step0 (heap' := [(0, .box (TS.c size0)), (1, .box (TList.c x2)), (2, .box (TBase.c c34a))]) (next' := 3) rfl rfl rfl rfl rfl ?_
 refine GX.m rfl ?_
 refine GX.done ?_
 refine WK.sr mixed ?_
 refine GX.q (.ptr 0 0) ?_
 refine GX.q (.int .i64 size0.e0) ?_
 refine GX.q (.ptr 0 1) ?_
 refine GX.q (.int .i64 size0.e1) ?_
 generalize hc42 : F25_crossroadsref23_New size0.e0 size0.e1 = c42 at hR
 have hpo0_c42 := post_rNew1 size0.e0 size0.e1; rw [hc42] at hpo0_c42
 have hpo1_c42 := post_rNew2 size0.e0 size0.e1; rw [hc42] at hpo1_c42
 obtain ⟨c42a, c42b⟩ := c42; try dsimp only at hR; try dsimp only at hpo0_c42; try dsimp only at hpo1_c42
 refine GX.callp (r := .tup [.agg [.int .i64 c42a.Level, .int .i64 c42a.Max, .ro 7 (c42a.L.map TLsp.c), .bool c42a.Over], .int .i64 c42b]) rfl rfl rfl (f25_ok size0.e0 size0.e1 _ hc42) rfl rfl ?_
 refine GX.m rfl ?_
 refine GX.q (.agg [.int .i64 c42a.Level, .int .i64 c42a.Max, .ro 7 (c42a.L.map TLsp.c), .bool c42a.Over]) ?_
 refine GX.q (.int .i64 c42b) ?_
 refine GX.step (v' := .ptr 3 0) (heap' := [(0, .box (TS.c size0)), (1, .box (TList.c x2)), (2, .box (TBase.c c34a)), (3, .box [.int .i64 0, .int .i64 0, .nils, .bool false])]) (next' := 4) rfl rfl rfl rfl rfl rfl rfl ?_
 refine GX.step0 (heap' := [(0, .box (TS.c size0)), (1, .box (TList.c x2)), (2, .box (TBase.c c34a)), (3, .box (TBase.c c42a))]) (next' := 4) rfl rfl rfl rfl rfl ?_
 refine GX.m rfl ?_
 refine GX.done ?_
 iterate 2 refine WK.seq ?_
 refine WK.drawn mixed ?_
 iterate 2 refine RD.m rfl ?_
 refine RD.q (.bool (!decide (c34b = c42b))) ?_
 refine RD.m rfl ?_
 rcases bool_two (decide (c34b = c42b)) with hb1 | hb1
 ·rw [hb1]; try simp only [hb1, bb] at hR
  iterate 5 refine RD.skip rfl rfl ?_
  refine RD.q (.bool true) ?_
  refine RD.m rfl ?_
  iterate 4 refine RD.skip rfl rfl ?_
  refine RD.q (.bool true) ?_
  refine RD.done rfl ?_
  refine WK.condT rfl ?_
  refine WK.sr mixed ?_
  iterate 2 refine GX.m rfl ?_
  refine GX.q (.bool (decide (c34b = c42b))) ?_
  refine GX.m rfl ?_
  rw [hb1]
  iterate 4 refine GX.skip rfl rfl ?_
  refine GX.q (.bool false) ?_
  refine GX.m rfl ?_
  refine GX.skip rfl rfl ?_
  refine GX.q (.bool false) ?_
  refine GX.m rfl ?_
  refine GX.done ?_
  refine WK.ret ?_
  subst hR
  exact RetQ.fr [] (.inr rfl) rfl rfl rfl rfl
 ·rw [hb1]; try simp only [hb1, bb] at hR
  refine RD.q (.agg (TBase.c c34a)) ?_
  generalize hc50 : F23_crossroadslaw23_plain c34a = c50 at hR
  have hpo0_c50 := post_plain c34a (by omega); rw [hc50] at hpo0_c50
  try dsimp only at hR
  refine RD.callp (r := .agg [.int .i64 c50.Level, .int .i64 c50.Max, .ro 7 (c50.L.map TLsp.c), .bool c50.Over]) rfl rfl rfl (f23_ok c34a (by omega) _ hc50) rfl rfl ?_
  refine RD.q (.agg (TBase.c c42a)) ?_
  generalize hc52 : F22_crossroadsref23_Same c50 c42a = c52 at hR
  try dsimp only at hR
  refine RD.callp (r := .bool c52) rfl rfl rfl (f22_ok c50 c42a _ hc52) rfl rfl ?_
  iterate 2 refine RD.q (.bool (!c52)) ?_
  refine RD.m rfl ?_
  rcases bool_two (c52) with hb2 | hb2
  ·rw [hb2]; try simp only [hb2, bb] at hR
   iterate 4 refine RD.skip rfl rfl ?_
   refine RD.q (.bool true) ?_
   refine RD.done rfl ?_
   refine WK.condT rfl ?_
   refine WK.sr mixed ?_
   iterate 2 refine GX.m rfl ?_
   refine GX.q (.bool (decide (c34b = c42b))) ?_
   refine GX.m rfl ?_
   rw [hb1]
   refine GX.q (.ptr 1 5) ?_
   refine GX.q (.ro 4 (x2.L.map TEntry.c)) ?_
   refine GX.pure (v' := .int .i64 (x2.L.length : Int)) rfl rfl rfl rfl (len_map _ _) ?_
   iterate 2 refine GX.q (.bool (decide (60 < (x2.L.length : Int)))) ?_
   refine GX.m rfl ?_
   rcases bool_two (decide (60 < (x2.L.length : Int))) with hb3 | hb3
   ·rw [hb3]; try simp only [hb3, bb] at hR
    refine GX.skip rfl rfl ?_
    refine GX.q (.bool false) ?_
    refine GX.m rfl ?_
    refine GX.done ?_
    refine WK.ret ?_
    subst hR
    exact RetQ.fr [] (.inr rfl) rfl rfl rfl rfl
   ·rw [hb3]; try simp only [hb3, bb] at hR
    generalize hc71 : F11_crossroadslaw23_alive = c71 at hR
    try dsimp only at hR
    refine GX.callp (r := .bool c71) rfl rfl rfl (f11_ok  _ hc71) rfl rfl ?_
    refine GX.q (.bool c71) ?_
    refine GX.m rfl ?_
    refine GX.done ?_
    refine WK.ret ?_
    subst hR
    exact RetQ.fr [] (.inr rfl) rfl rfl rfl rfl
  ·rw [hb2]; try simp only [hb2, bb] at hR
   refine RD.q (.ptr 1 5) ?_
   refine RD.q (.ro 4 (x2.L.map TEntry.c)) ?_
   refine RD.pure (v' := .int .i64 (x2.L.length : Int)) rfl rfl rfl rfl (len_map _ _) ?_
   iterate 2 refine RD.q (.bool (decide (60 < (x2.L.length : Int)))) ?_
   refine RD.done rfl ?_
   rcases bool_two (decide (60 < (x2.L.length : Int))) with hb4 | hb4
   ·rw [hb4]; try simp only [hb4, bb] at hR
    refine WK.condF rfl ?_
    refine WK.skip ?_
    refine WK.seq ?_
    refine WK.sr mixed ?_
    refine GX.m rfl ?_
    refine GX.done ?_
    rcases bool_two (decide (c34b = 0)) with hb5 | hb5
    ·try simp only [hb5, bb] at hR
     refine WK.unroll 2 (WU.go ?_)
     refine WK.seq ?_
     refine WK.sr mixed ?_
     refine GX.m rfl ?_
     refine GX.q (.bool (decide (c34b = 0))) ?_
     refine GX.m rfl ?_
     rw [hb5]
     iterate 4 refine GX.skip rfl rfl ?_
     refine GX.q (.bool false) ?_
     refine GX.m rfl ?_
     iterate 2 refine GX.skip rfl rfl ?_
     refine GX.q (.bool false) ?_
     refine GX.done ?_
     refine WK.condF rfl ?_
     refine WK.exit ?_
     refine QF.exit ?_
     refine WK.sr mixed ?_
     generalize hc206 : F11_crossroadslaw23_alive = c206 at hR
     try dsimp only at hR
     refine GX.callp (r := .bool c206) rfl rfl rfl (f11_ok  _ hc206) rfl rfl ?_
     refine GX.m rfl ?_
     refine GX.done ?_
     refine WK.ret ?_
     subst hR
     exact RetQ.fr [] (.inr rfl) rfl rfl rfl rfl
    ·try simp only [hb5, bb] at hR
     refine WK.len (t := 1) rfl (by simp) (fun hlen_20 => ?_)
     rw [List.length_map] at hlen_20
     generalize hZ_20 : F7_crossroadslaw23_LinkPlays_l1 x2 c34a c42a 0 script1 = Z_20 at hR
     refine WK.forK (fun k s => ∃ (i11 : Nat) (b7 : TBase) (m9 : TBase), i11 ≤ script1.length ∧ k = script1.length - i11 ∧ SmB b7 ∧ b7.Max ≤ 1000 ∧ SmB m9 ∧ m9.Max ≤ 1000 ∧ F7_crossroadslaw23_LinkPlays_l1 x2 b7 m9 i11 (script1.drop i11) = Z_20 ∧ s = ⟨[(1, .ro 9 (script1.map TAct.c)), (5, .ptr 0 0), (7, .ptr 1 0), (8, .int .i64 c34b), (9, .ptr 2 0), (11, .int .i64 (i11 : Int))], [(0, .box (TList.c x2)), (1, .box (TBase.c b7)), (2, .box (TBase.c m9))], 3⟩) script1.length ⟨⟨[(1, .ro 9 (script1.map TAct.c)), (5, .ptr 0 0), (7, .ptr 1 0), (8, .int .i64 c34b), (9, .ptr 2 0), (11, .int .i64 (0 : Int))], [(0, .box (TList.c x2)), (1, .box (TBase.c c34a)), (2, .box (TBase.c c42a))], 3⟩, Conv.keep [1, 2, 3] [] [1, 5, 7, 8, 9, 11] rfl rfl (viewE_cons rfl rfl (viewE_cons rfl rfl (viewE_cons rfl rfl (viewE_cons rfl rfl (viewE_cons rfl rfl (viewE_cons rfl rfl viewE_nil)))))) rfl rfl, 0, c34a, c42a, (by omega), rfl, (by omega), (by omega), (by omega), (by omega), hZ_20, rfl⟩ ?_
     rintro _ _ ⟨i11, b7, m9, hi_20, rfl, hinv20_c0, hinv20_c1, hinv20_c2, hinv20_c3, hL_20, rfl⟩ again_20 out_20 Q_20 hagain_20 hout_20 hQ_20
     refine WK.seq ?_
     refine WK.sr mixed ?_
     refine GX.m rfl ?_
     refine GX.q (.bool (decide (c34b = 0))) ?_
     refine GX.m rfl ?_
     rw [hb5]
     iterate 2 refine GX.m rfl ?_
     refine GX.pure (v' := .int .i64 (script1.length : Int)) rfl rfl rfl rfl (len_map _ _) ?_
     iterate 2 refine GX.q (.bool (decide ((i11 : Int) < (script1.length : Int)))) ?_
     refine GX.m rfl ?_
     rcases bool_two (decide ((i11 : Int) < (script1.length : Int))) with hb21 | hb21
     ·rw [hb21]
      rw [drop_end hb21, F7_crossroadslaw23_LinkPlays_l1] at hL_20
      iterate 2 refine GX.skip rfl rfl ?_
      refine GX.q (.bool false) ?_
      refine GX.done ?_
      refine WK.condF rfl ?_
      refine WK.exit ?_
      refine QF.exit (hout_20 _ ?_)
      subst hL_20
      try dsimp only [cond_true, cond_false] at hR
      refine WK.sr mixed ?_
      generalize hc206 : F11_crossroadslaw23_alive = c206 at hR
      try dsimp only at hR
      refine GX.callp (r := .bool c206) rfl rfl rfl (f11_ok  _ hc206) rfl rfl ?_
      refine GX.m rfl ?_
      refine GX.done ?_
      refine WK.ret ?_
      subst hR
      exact RetQ.fr [] (.inr rfl) rfl rfl rfl rfl
     ·rw [hb21]
      obtain ⟨x11, hx20, hd20, hlt20⟩ := drop_more hb21
      rw [hd20, F7_crossroadslaw23_LinkPlays_l1] at hL_20
      refine GX.m rfl ?_
      iterate 2 refine GX.q (.bool (decide ((i11 : Int) < 60))) ?_
      refine GX.done ?_
      rcases bool_two (decide ((i11 : Int) < 60)) with hb22 | hb22
      ·rw [hb22]; try simp only [hb22, bb] at hL_20
       refine WK.condF rfl ?_
       refine WK.exit ?_
       refine QF.exit (hout_20 _ ?_)
       subst hL_20
       try dsimp only [cond_true, cond_false] at hR
       refine WK.sr mixed ?_
       generalize hc206 : F11_crossroadslaw23_alive = c206 at hR
       try dsimp only at hR
       refine GX.callp (r := .bool c206) rfl rfl rfl (f11_ok  _ hc206) rfl rfl ?_
       refine GX.m rfl ?_
       refine GX.done ?_
       refine WK.ret ?_
       subst hR
       exact RetQ.fr [] (.inr rfl) rfl rfl rfl rfl
      ·rw [hb22]; try simp only [hb22, bb] at hL_20
       refine WK.condT rfl ?_
       refine WK.skip ?_
       refine WK.seq ?_
       refine WK.blockK (fun _ hK23 => ?_)
       refine WK.sr mixed ?_
       iterate 2 refine GX.m rfl ?_
       refine GX.idxT (c := TAct.c) (x := x11) rfl rfl rfl (Int.natCast_nonneg _) hx20 ?_
       refine GX.q (.agg (TAct.c x11)) ?_
       refine GX.step (v' := .ptr 3 0) (heap' := [(0, .box (TList.c x2)), (1, .box (TBase.c b7)), (2, .box (TBase.c m9)), (3, .box [.bool false, .int .i64 0, .int .i64 0, .int .i64 0, .int .u64 0, .int .u32 0, .int .i64 0, .int .i64 0, .nils])]) (next' := 4) rfl rfl rfl rfl rfl rfl rfl ?_
       refine GX.step0 (heap' := [(0, .box (TList.c x2)), (1, .box (TBase.c b7)), (2, .box (TBase.c m9)), (3, .box (TAct.c x11))]) (next' := 4) rfl rfl rfl rfl rfl ?_
       refine GX.done ?_
       refine WK.seq ?_
       refine WK.sr mixed ?_
       refine GX.q (.ptr 3 2) ?_
       refine GX.q (.agg [.int .i64 x11.X.Level, .int .i64 x11.X.Life, .int .u64 x11.X.ID, .int .u32 x11.X.Seq, .int .i64 x11.X.Sum, .int .i64 x11.X.Bits, .ro 2 (x11.X.Things.map TThing.c)]) ?_
       generalize hc93 : F12_crossroadslaw23_little x11.X = c93 at hL_20
       have hpo0_c93 := post_little x11.X; rw [hc93] at hpo0_c93
       try dsimp only at hL_20
       refine GX.callp (r := .bool c93) rfl rfl rfl (f12_ok x11.X _ hc93) rfl rfl ?_
       refine GX.q (.bool (!c93)) ?_
       refine GX.done ?_
       rcases bool_two (c93) with hb24 | hb24
       ·rw [hb24]; try simp only [hb24, bb] at hL_20
        refine WK.condT rfl ?_
        refine WK.exit ?_
        refine QF.exit (hK23 _ ?_)
        refine WK.regx mixed ?_
        refine GX.m rfl ?_
        refine GX.pure (v' := .int .i64 ((i11 + 1 : Nat) : Int)) rfl rfl rfl rfl (congrArg (PVal.int .i64) (wrap_up hlt20 hlen_20)) ?_
        refine GX.m rfl ?_
        refine GX.done ?_
        refine WK.nil (QF.normal ?_)
        exact hagain_20 _ (script1.length - (i11 + 1)) ⟨[(1, .ro 9 (script1.map TAct.c)), (5, .ptr 0 0), (7, .ptr 1 0), (8, .int .i64 c34b), (9, .ptr 2 0), (11, .int .i64 ((i11 + 1) : Int))], [(0, .box (TList.c x2)), (1, .box (TBase.c b7)), (2, .box (TBase.c m9))], 3⟩ (by omega) (Conv.keep [0, 1, 2] [] [1, 5, 7, 8, 9, 11] rfl rfl (viewE_cons rfl rfl (viewE_cons rfl rfl (viewE_cons rfl rfl (viewE_cons rfl rfl (viewE_cons rfl rfl (viewE_cons rfl rfl viewE_nil)))))) rfl rfl) ⟨i11 + 1, b7, m9, (by omega), rfl, (by omega), (by omega), (by omega), (by omega), hL_20, rfl⟩
       ·rw [hb24]; try simp only [hb24, bb] at hL_20
        try have hq_hpo0_c93 := hpo0_c93 hb24
        refine WK.condF rfl ?_
        refine WK.skip ?_
        refine WK.seq ?_
        refine WK.drawn mixed ?_
        refine RD.q (.agg (TBase.c b7)) ?_
        refine RD.q (.agg (TBase.c m9)) ?_
        refine RD.step (v' := .ptr 4 0) (heap' := [(0, .box (TList.c x2)), (1, .box (TBase.c b7)), (2, .box (TBase.c m9)), (3, .box (TAct.c x11)), (4, .box [.int .i64 0, .int .i64 0, .nils, .bool false])]) (next' := 5) rfl rfl rfl rfl rfl rfl rfl ?_
        refine RD.step (v' := .ptr 5 0) (heap' := [(0, .box (TList.c x2)), (1, .box (TBase.c b7)), (2, .box (TBase.c m9)), (3, .box (TAct.c x11)), (4, .box [.int .i64 0, .int .i64 0, .nils, .bool false]), (5, .box [.int .i64 0, .int .i64 0, .nils, .bool false])]) (next' := 6) rfl rfl rfl rfl rfl rfl rfl ?_
        refine RD.step0 (heap' := [(0, .box (TList.c x2)), (1, .box (TBase.c b7)), (2, .box (TBase.c m9)), (3, .box (TAct.c x11)), (4, .box (TBase.c b7)), (5, .box [.int .i64 0, .int .i64 0, .nils, .bool false])]) (next' := 6) rfl rfl rfl rfl rfl ?_
        refine RD.step0 (heap' := [(0, .box (TList.c x2)), (1, .box (TBase.c b7)), (2, .box (TBase.c m9)), (3, .box (TAct.c x11)), (4, .box (TBase.c b7)), (5, .box (TBase.c m9))]) (next' := 6) rfl rfl rfl rfl rfl ?_
        refine RD.done rfl ?_
        refine WK.seq ?_
        refine WK.sr mixed ?_
        refine GX.q (.ptr 3 0) ?_
        refine GX.q (.bool x11.Tick) ?_
        refine GX.done ?_
        rcases bool_two (x11.Tick) with hb25 | hb25
        ·rw [hb25]; try simp only [hb25, bb] at hL_20
         refine WK.condF rfl ?_
         refine WK.sr mixed ?_
         refine GX.q (.agg (TBase.c b7)) ?_
         refine GX.q (.ptr 3 2) ?_
         refine GX.q (.agg [.int .i64 x11.X.Level, .int .i64 x11.X.Life, .int .u64 x11.X.ID, .int .u32 x11.X.Seq, .int .i64 x11.X.Sum, .int .i64 x11.X.Bits, .ro 2 (x11.X.Things.map TThing.c)]) ?_
         generalize hc123 : F21_link_Put b7 x11.X = c123 at hL_20
         have hpo0_c123 := post_Put1 b7 x11.X (by omega) (by omega) (by omega); rw [hc123] at hpo0_c123
         have hpo1_c123 := post_Put2 b7 x11.X (by omega) (by omega) (by omega); rw [hc123] at hpo1_c123
         obtain ⟨c123a, c123b, c123c⟩ := c123; try dsimp only at hL_20; try dsimp only at hpo0_c123; try dsimp only at hpo1_c123
         refine GX.callp (r := .tup [.agg [.int .i64 c123a.Level, .int .i64 c123a.Max, .ro 7 (c123a.L.map TLsp.c), .bool c123a.Over], .int .i64 c123b, .int .i64 c123c]) rfl rfl rfl (f21_ok b7 x11.X (by omega) (by omega) (by omega) _ hc123) rfl rfl ?_
         refine GX.m rfl ?_
         refine GX.q (.agg [.int .i64 c123a.Level, .int .i64 c123a.Max, .ro 7 (c123a.L.map TLsp.c), .bool c123a.Over]) ?_
         refine GX.q (.int .i64 c123b) ?_
         refine GX.q (.int .i64 c123c) ?_
         refine GX.step (v' := .ptr 6 0) (heap' := [(0, .box (TList.c x2)), (1, .box (TBase.c b7)), (2, .box (TBase.c m9)), (3, .box (TAct.c x11)), (4, .box (TBase.c b7)), (5, .box (TBase.c m9)), (6, .box [.int .i64 0, .int .i64 0, .nils, .bool false])]) (next' := 7) rfl rfl rfl rfl rfl rfl rfl ?_
         refine GX.step0 (heap' := [(0, .box (TList.c x2)), (1, .box (TBase.c b7)), (2, .box (TBase.c m9)), (3, .box (TAct.c x11)), (4, .box (TBase.c b7)), (5, .box (TBase.c m9)), (6, .box (TBase.c c123a))]) (next' := 7) rfl rfl rfl rfl rfl ?_
         iterate 2 refine GX.m rfl ?_
         refine GX.done ?_
         refine WK.seq ?_
         refine WK.drawn mixed ?_
         refine RD.q (.agg (TBase.c m9)) ?_
         refine RD.q (.ptr 3 2) ?_
         refine RD.q (.agg [.int .i64 x11.X.Level, .int .i64 x11.X.Life, .int .u64 x11.X.ID, .int .u32 x11.X.Seq, .int .i64 x11.X.Sum, .int .i64 x11.X.Bits, .ro 2 (x11.X.Things.map TThing.c)]) ?_
         generalize hc131 : F30_crossroadslaw23_lsp x11.X = c131 at hL_20
         have hpo0_c131 := post_lsp x11.X (by omega); rw [hc131] at hpo0_c131
         try dsimp only at hL_20
         refine RD.callp (r := .agg [.int .i64 c131.Level, .int .i64 c131.Life, .int .u64 c131.ID, .int .u32 c131.Seq, .int .i64 c131.Sum, .int .i64 c131.Bits, .ro 2 (c131.Things.map TThing.c)]) rfl rfl rfl (f30_ok x11.X (by omega) _ hc131) rfl rfl ?_
         generalize hc132 : F29_crossroadsref23_Put m9 c131 = c132 at hL_20
         have hpo0_c132 := post_rPut1 m9 c131 (by omega) (by omega) (by omega); rw [hc132] at hpo0_c132
         have hpo1_c132 := post_rPut2 m9 c131 (by omega) (by omega) (by omega); rw [hc132] at hpo1_c132
         obtain ⟨c132a, c132b, c132c⟩ := c132; try dsimp only at hL_20; try dsimp only at hpo0_c132; try dsimp only at hpo1_c132
         refine RD.callp (r := .tup [.agg [.int .i64 c132a.Level, .int .i64 c132a.Max, .ro 7 (c132a.L.map TLsp.c), .bool c132a.Over], .int .i64 c132b, .int .i64 c132c]) rfl rfl rfl (f29_ok m9 c131 (by omega) (by omega) (by omega) _ hc132) rfl rfl ?_
         refine RD.m rfl ?_
         refine RD.q (.agg [.int .i64 c132a.Level, .int .i64 c132a.Max, .ro 7 (c132a.L.map TLsp.c), .bool c132a.Over]) ?_
         refine RD.q (.int .i64 c132b) ?_
         refine RD.q (.int .i64 c132c) ?_
         refine RD.step (v' := .ptr 7 0) (heap' := [(0, .box (TList.c x2)), (1, .box (TBase.c b7)), (2, .box (TBase.c m9)), (3, .box (TAct.c x11)), (4, .box (TBase.c b7)), (5, .box (TBase.c m9)), (6, .box (TBase.c c123a)), (7, .box [.int .i64 0, .int .i64 0, .nils, .bool false])]) (next' := 8) rfl rfl rfl rfl rfl rfl rfl ?_
         refine RD.step0 (heap' := [(0, .box (TList.c x2)), (1, .box (TBase.c b7)), (2, .box (TBase.c m9)), (3, .box (TAct.c x11)), (4, .box (TBase.c b7)), (5, .box (TBase.c m9)), (6, .box (TBase.c c123a)), (7, .box (TBase.c c132a))]) (next' := 8) rfl rfl rfl rfl rfl ?_
         iterate 2 refine RD.m rfl ?_
         refine RD.done rfl ?_
         refine WK.seq ?_
         refine WK.sr mixed ?_
         iterate 2 refine GX.m rfl ?_
         refine GX.q (.bool (!decide (c123b = c132b))) ?_
         refine GX.m rfl ?_
         rcases bool_two (decide (c123b = c132b)) with hb26 | hb26
         ·rw [hb26]; try simp only [hb26, bb] at hL_20
          iterate 3 refine GX.skip rfl rfl ?_
          refine GX.q (.bool true) ?_
          refine GX.done ?_
          refine WK.condT rfl ?_
          refine WK.sr mixed ?_
          refine GX.m rfl ?_
          refine GX.done ?_
          refine WK.ret ?_
          refine QF.ret ?_
          refine QF.ret (hQ_20 _ _ ?_)
          subst hL_20
          subst hR
          exact RetQ.fr [] (.inr rfl) rfl rfl rfl rfl
         ·rw [hb26]; try simp only [hb26, bb] at hL_20
          iterate 2 refine GX.m rfl ?_
          iterate 2 refine GX.q (.bool (!decide (c123c = c132c))) ?_
          refine GX.done ?_
          rcases bool_two (decide (c123c = c132c)) with hb27 | hb27
          ·rw [hb27]; try simp only [hb27, bb] at hL_20
           refine WK.condT rfl ?_
           refine WK.sr mixed ?_
           refine GX.m rfl ?_
           refine GX.done ?_
           refine WK.ret ?_
           refine QF.ret ?_
           refine QF.ret (hQ_20 _ _ ?_)
           subst hL_20
           subst hR
           exact RetQ.fr [] (.inr rfl) rfl rfl rfl rfl
          ·rw [hb27]; try simp only [hb27, bb] at hL_20
           refine WK.condF rfl ?_
           refine WK.skip ?_
           refine WK.sr mixed ?_
           refine GX.q (.agg (TBase.c c123a)) ?_
           refine GX.step0 (heap' := [(0, .box (TList.c x2)), (1, .box (TBase.c c123a)), (2, .box (TBase.c m9)), (3, .box (TAct.c x11)), (4, .box (TBase.c b7)), (5, .box (TBase.c m9)), (6, .box (TBase.c c123a)), (7, .box (TBase.c c132a))]) (next' := 8) rfl rfl rfl rfl rfl ?_
           refine GX.done ?_
           refine WK.regx mixed ?_
           refine GX.q (.agg (TBase.c c132a)) ?_
           refine GX.step0 (heap' := [(0, .box (TList.c x2)), (1, .box (TBase.c c123a)), (2, .box (TBase.c c132a)), (3, .box (TAct.c x11)), (4, .box (TBase.c b7)), (5, .box (TBase.c m9)), (6, .box (TBase.c c123a)), (7, .box (TBase.c c132a))]) (next' := 8) rfl rfl rfl rfl rfl ?_
           refine GX.done ?_
           refine WK.sr mixed ?_
           refine GX.q (.agg (TBase.c c123a)) ?_
           refine GX.q (.agg (TList.c x2)) ?_
           generalize hc149 : F18_link_Differ c123a x2 = c149 at hL_20
           have hpo0_c149 := post_Differ1 c123a x2 (by omega) (by ((try simp only [List.length_append, List.length_cons, List.length_nil, List.length_map, decide_eq_true_eq, decide_eq_false_iff_not] at *) <;> omega)); rw [hc149] at hpo0_c149
           obtain ⟨c149a, c149b⟩ := c149; try dsimp only at hL_20; try dsimp only at hpo0_c149
           refine GX.callp (r := .tup [.ro 1 (c149a.map c_u64), .ro 4 (c149b.map TEntry.c)]) rfl rfl rfl (f18_ok c123a x2 (by omega) (by ((try simp only [List.length_append, List.length_cons, List.length_nil, List.length_map, decide_eq_true_eq, decide_eq_false_iff_not] at *) <;> omega)) _ hc149) rfl rfl ?_
           refine GX.m rfl ?_
           refine GX.q (.ro 1 (c149a.map c_u64)) ?_
           refine GX.q (.ro 4 (c149b.map TEntry.c)) ?_
           iterate 2 refine GX.m rfl ?_
           refine GX.done ?_
           refine WK.seq ?_
           refine WK.drawn mixed ?_
           refine RD.q (.agg (TBase.c c132a)) ?_
           refine RD.q (.agg (TList.c x2)) ?_
           generalize hc155 : F32_crossroadslaw23_list x2 = c155 at hL_20
           have hpo0_c155 := post_list x2 (by ((try simp only [List.length_append, List.length_cons, List.length_nil, List.length_map, decide_eq_true_eq, decide_eq_false_iff_not] at *) <;> omega)); rw [hc155] at hpo0_c155
           try dsimp only at hL_20
           refine RD.callp (r := .agg [.int .i64 c155.Level, .bool c155.Whole, .int .u64 c155.Source, .int .u64 c155.Low, .int .u64 c155.High, .ro 4 (c155.L.map TEntry.c)]) rfl rfl rfl (f32_ok x2 (by ((try simp only [List.length_append, List.length_cons, List.length_nil, List.length_map, decide_eq_true_eq, decide_eq_false_iff_not] at *) <;> omega)) _ hc155) rfl rfl ?_
           generalize hc156 : F31_crossroadsref23_Differ c132a c155 = c156 at hL_20
           obtain ⟨c156a, c156b⟩ := c156; try dsimp only at hL_20
           refine RD.callp (r := .tup [.ro 1 (c156a.map c_u64), .ro 4 (c156b.map TEntry.c)]) rfl rfl rfl (f31_ok c132a c155 (by omega) (by omega) _ hc156) rfl rfl ?_
           refine RD.m rfl ?_
           refine RD.q (.ro 1 (c156a.map c_u64)) ?_
           refine RD.q (.ro 4 (c156b.map TEntry.c)) ?_
           iterate 2 refine RD.m rfl ?_
           refine RD.done rfl ?_
           refine WK.seq ?_
           refine WK.drawn mixed ?_
           refine RD.q (.agg (TBase.c c123a)) ?_
           generalize hc160 : F23_crossroadslaw23_plain c123a = c160 at hL_20
           have hpo0_c160 := post_plain c123a (by omega); rw [hc160] at hpo0_c160
           try dsimp only at hL_20
           refine RD.callp (r := .agg [.int .i64 c160.Level, .int .i64 c160.Max, .ro 7 (c160.L.map TLsp.c), .bool c160.Over]) rfl rfl rfl (f23_ok c123a (by omega) _ hc160) rfl rfl ?_
           refine RD.q (.agg (TBase.c c132a)) ?_
           generalize hc162 : F22_crossroadsref23_Same c160 c132a = c162 at hL_20
           try dsimp only at hL_20
           refine RD.callp (r := .bool c162) rfl rfl rfl (f22_ok c160 c132a _ hc162) rfl rfl ?_
           refine RD.q (.bool (!c162)) ?_
           refine RD.m rfl ?_
           rcases bool_two (c162) with hb28 | hb28
           ·rw [hb28]; try simp only [hb28, bb] at hL_20
            iterate 5 refine RD.skip rfl rfl ?_
            refine RD.q (.bool true) ?_
            refine RD.m rfl ?_
            iterate 4 refine RD.skip rfl rfl ?_
            refine RD.q (.bool true) ?_
            refine RD.m rfl ?_
            iterate 5 refine RD.skip rfl rfl ?_
            refine RD.q (.bool true) ?_
            refine RD.m rfl ?_
            iterate 15 refine RD.skip rfl rfl ?_
            refine RD.q (.bool true) ?_
            refine RD.m rfl ?_
            iterate 3 refine RD.skip rfl rfl ?_
            refine RD.q (.bool true) ?_
            refine RD.doneB [0, 1, 0, 7, 15, 31, 63, 127, 63, 511, 1023, 2047, 4095, 8191, 8191, 32767, 65535, 131071, 262143, 524287, 1048575, 524287, 4194303, 8388607, 16777215, 33554431, 67108863, 67108863, 201326591, 67108863, 603979775, 2147483647, 4294967295, 67108863, 67108863, 17246978047, 67108863, 68786585599, 274877906943, 549755813887, 1099511627775, 2199023255551, 4398046511103, 8796093022207, 17592186044415, 35184372088831, 70368744177663] (by kernel_rfl) (by kernel_rfl) (by kernel_rfl) ?_
            refine WK.condT rfl ?_
            refine WK.sr mixed ?_
            refine GX.m rfl ?_
            refine GX.done ?_
            refine WK.ret ?_
            refine QF.ret ?_
            refine QF.ret (hQ_20 _ _ ?_)
            subst hL_20
            subst hR
            exact RetQ.fr [] (.inr rfl) rfl rfl rfl rfl
           ·rw [hb28]; try simp only [hb28, bb] at hL_20
            refine RD.q (.agg (TBase.c b7)) ?_
            generalize hc166 : F23_crossroadslaw23_plain b7 = c166 at hL_20
            have hpo0_c166 := post_plain b7 (by omega); rw [hc166] at hpo0_c166
            try dsimp only at hL_20
            refine RD.callp (r := .agg [.int .i64 c166.Level, .int .i64 c166.Max, .ro 7 (c166.L.map TLsp.c), .bool c166.Over]) rfl rfl rfl (f23_ok b7 (by omega) _ hc166) rfl rfl ?_
            refine RD.q (.agg (TBase.c m9)) ?_
            generalize hc168 : F22_crossroadsref23_Same c166 m9 = c168 at hL_20
            try dsimp only at hL_20
            refine RD.callp (r := .bool c168) rfl rfl rfl (f22_ok c166 m9 _ hc168) rfl rfl ?_
            iterate 2 refine RD.q (.bool (!c168)) ?_
            refine RD.m rfl ?_
            rcases bool_two (c168) with hb29 | hb29
            ·rw [hb29]; try simp only [hb29, bb] at hL_20
             iterate 4 refine RD.skip rfl rfl ?_
             refine RD.q (.bool true) ?_
             refine RD.m rfl ?_
             iterate 5 refine RD.skip rfl rfl ?_
             refine RD.q (.bool true) ?_
             refine RD.m rfl ?_
             iterate 15 refine RD.skip rfl rfl ?_
             refine RD.q (.bool true) ?_
             refine RD.m rfl ?_
             iterate 3 refine RD.skip rfl rfl ?_
             refine RD.q (.bool true) ?_
             refine RD.doneB [0, 1, 0, 7, 15, 31, 63, 127, 63, 511, 1023, 2047, 4095, 8191, 8191, 32767, 65535, 131071, 262143, 524287, 1048575, 524287, 4194303, 8388607, 16777215, 33554431, 67108863, 67108863, 201326591, 67108863, 603979775, 2147483647, 4294967295, 67108863, 67108863, 17246978047, 67108863, 68786585599, 274877906943, 549755813887, 1099511627775, 2199023255551, 4398046511103, 8796093022207, 17592186044415, 35184372088831, 70368744177663] (by kernel_rfl) (by kernel_rfl) (by kernel_rfl) ?_
             refine WK.condT rfl ?_
             refine WK.sr mixed ?_
             refine GX.m rfl ?_
             refine GX.done ?_
             refine WK.ret ?_
             refine QF.ret ?_
             refine QF.ret (hQ_20 _ _ ?_)
             subst hL_20
             subst hR
             exact RetQ.fr [] (.inr rfl) rfl rfl rfl rfl
            ·rw [hb29]; try simp only [hb29, bb] at hL_20
             iterate 2 refine RD.m rfl ?_
             generalize hc174 : F28_crossroadsref23_IDs c149a c156a = c174 at hL_20
             try dsimp only at hL_20
             refine RD.callp (r := .bool c174) rfl rfl rfl (f28_ok c149a c156a _ hc174) rfl rfl ?_
             iterate 2 refine RD.q (.bool (!c174)) ?_
             refine RD.m rfl ?_
             rcases bool_two (c174) with hb30 | hb30
             ·rw [hb30]; try simp only [hb30, bb] at hL_20
              iterate 5 refine RD.skip rfl rfl ?_
              refine RD.q (.bool true) ?_
              refine RD.m rfl ?_
              iterate 15 refine RD.skip rfl rfl ?_
              refine RD.q (.bool true) ?_
              refine RD.m rfl ?_
              iterate 3 refine RD.skip rfl rfl ?_
              refine RD.q (.bool true) ?_
              refine RD.doneB [0, 1, 0, 7, 15, 31, 63, 127, 63, 511, 1023, 2047, 4095, 8191, 8191, 32767, 65535, 131071, 262143, 524287, 1048575, 524287, 4194303, 8388607, 16777215, 33554431, 67108863, 67108863, 201326591, 67108863, 603979775, 2147483647, 4294967295, 67108863, 67108863, 17246978047, 67108863, 68786585599, 274877906943, 549755813887, 1099511627775, 2199023255551, 4398046511103, 8796093022207, 17592186044415, 35184372088831, 70368744177663] (by kernel_rfl) (by kernel_rfl) (by kernel_rfl) ?_
              refine WK.condT rfl ?_
              refine WK.sr mixed ?_
              refine GX.m rfl ?_
              refine GX.done ?_
              refine WK.ret ?_
              refine QF.ret ?_
              refine QF.ret (hQ_20 _ _ ?_)
              subst hL_20
              subst hR
              exact RetQ.fr [] (.inr rfl) rfl rfl rfl rfl
             ·rw [hb30]; try simp only [hb30, bb] at hL_20
              refine RD.m rfl ?_
              generalize hc179 : F34_crossroadslaw23_rows c149b = c179 at hL_20
              try dsimp only at hL_20
              refine RD.callp (r := .ro 4 (c179.map TEntry.c)) rfl rfl rfl (f34_ok c149b (by omega) _ hc179) rfl rfl ?_
              refine RD.m rfl ?_
              generalize hc181 : F33_crossroadsref22_Entries c179 c156b = c181 at hL_20
              try dsimp only at hL_20
              refine RD.callp (r := .bool c181) rfl rfl rfl (f33_ok c179 c156b _ hc181) rfl rfl ?_
              iterate 2 refine RD.q (.bool (!c181)) ?_
              refine RD.m rfl ?_
              rcases bool_two (c181) with hb31 | hb31
              ·rw [hb31]; try simp only [hb31, bb] at hL_20
               iterate 15 refine RD.skip rfl rfl ?_
               refine RD.q (.bool true) ?_
               refine RD.m rfl ?_
               iterate 3 refine RD.skip rfl rfl ?_
               refine RD.q (.bool true) ?_
               refine RD.doneB [0, 1, 0, 7, 15, 31, 63, 127, 63, 511, 1023, 2047, 4095, 8191, 8191, 32767, 65535, 131071, 262143, 524287, 1048575, 524287, 4194303, 8388607, 16777215, 33554431, 67108863, 67108863, 201326591, 67108863, 603979775, 2147483647, 4294967295, 67108863, 67108863, 17246978047, 67108863, 68786585599, 274877906943, 549755813887, 1099511627775, 2199023255551, 4398046511103, 8796093022207, 17592186044415, 35184372088831, 70368744177663] (by kernel_rfl) (by kernel_rfl) (by kernel_rfl) ?_
               refine WK.condT rfl ?_
               refine WK.sr mixed ?_
               refine GX.m rfl ?_
               refine GX.done ?_
               refine WK.ret ?_
               refine QF.ret ?_
               refine QF.ret (hQ_20 _ _ ?_)
               subst hL_20
               subst hR
               exact RetQ.fr [] (.inr rfl) rfl rfl rfl rfl
              ·rw [hb31]; try simp only [hb31, bb] at hL_20
               refine RD.q (.agg (TBase.c c123a)) ?_
               refine RD.q (.ptr 0 3) ?_
               refine RD.q (.int .u64 x2.Low) ?_
               refine RD.q (.ptr 0 4) ?_
               refine RD.q (.int .u64 x2.High) ?_
               generalize hc190 : F17_link_List c123a x2.Low x2.High = c190 at hL_20
               have hpo0_c190 := post_List1 c123a x2.Low x2.High (by omega); rw [hc190] at hpo0_c190
               try dsimp only at hL_20
               refine RD.callp (r := .ro 4 (c190.map TEntry.c)) rfl rfl rfl (f17_ok c123a x2.Low x2.High (by omega) _ hc190) rfl rfl ?_
               generalize hc191 : F34_crossroadslaw23_rows c190 = c191 at hL_20
               try dsimp only at hL_20
               refine RD.callp (r := .ro 4 (c191.map TEntry.c)) rfl rfl rfl (f34_ok c190 (by omega) _ hc191) rfl rfl ?_
               refine RD.q (.agg (TBase.c c132a)) ?_
               refine RD.q (.ptr 0 3) ?_
               refine RD.q (.int .u64 x2.Low) ?_
               refine RD.q (.ptr 0 4) ?_
               refine RD.q (.int .u64 x2.High) ?_
               generalize hc197 : F35_crossroadsref23_List c132a x2.Low x2.High = c197 at hL_20
               have hpo0_c197 := post_rList1 c132a x2.Low x2.High (by omega); rw [hc197] at hpo0_c197
               try dsimp only at hL_20
               refine RD.callp (r := .ro 4 (c197.map TEntry.c)) rfl rfl rfl (f35_ok c132a x2.Low x2.High (by omega) _ hc197) rfl rfl ?_
               generalize hc198 : F33_crossroadsref22_Entries c191 c197 = c198 at hL_20
               try dsimp only at hL_20
               refine RD.callp (r := .bool c198) rfl rfl rfl (f33_ok c191 c197 _ hc198) rfl rfl ?_
               iterate 2 refine RD.q (.bool (!c198)) ?_
               refine RD.m rfl ?_
               rcases bool_two (c198) with hb32 | hb32
               ·rw [hb32]; try simp only [hb32, bb] at hL_20
                iterate 3 refine RD.skip rfl rfl ?_
                refine RD.q (.bool true) ?_
                refine RD.doneB [0, 1, 0, 7, 15, 31, 63, 127, 63, 511, 1023, 2047, 4095, 8191, 8191, 32767, 65535, 131071, 262143, 524287, 1048575, 524287, 4194303, 8388607, 16777215, 33554431, 67108863, 67108863, 201326591, 67108863, 603979775, 2147483647, 4294967295, 67108863, 67108863, 17246978047, 67108863, 68786585599, 274877906943, 549755813887, 1099511627775, 2199023255551, 4398046511103, 8796093022207, 17592186044415, 35184372088831, 70368744177663] (by kernel_rfl) (by kernel_rfl) (by kernel_rfl) ?_
                refine WK.condT rfl ?_
                refine WK.sr mixed ?_
                refine GX.m rfl ?_
                refine GX.done ?_
                refine WK.ret ?_
                refine QF.ret ?_
                refine QF.ret (hQ_20 _ _ ?_)
                subst hL_20
                subst hR
                exact RetQ.fr [] (.inr rfl) rfl rfl rfl rfl
               ·rw [hb32]; try simp only [hb32, bb] at hL_20
                refine RD.q (.agg (TBase.c c123a)) ?_
                generalize hc203 : F36_link_May c123a = c203 at hL_20
                try dsimp only at hL_20
                refine RD.callp (r := .bool c203) rfl rfl rfl (f36_ok c123a (by omega) _ hc203) rfl rfl ?_
                iterate 2 refine RD.q (.bool (!c203)) ?_
                refine RD.doneB [0, 1, 0, 7, 15, 31, 63, 127, 63, 511, 1023, 2047, 4095, 8191, 8191, 32767, 65535, 131071, 262143, 524287, 1048575, 524287, 4194303, 8388607, 16777215, 33554431, 67108863, 67108863, 201326591, 67108863, 603979775, 2147483647, 4294967295, 67108863, 67108863, 17246978047, 67108863, 68786585599, 274877906943, 549755813887, 1099511627775, 2199023255551, 4398046511103, 8796093022207, 17592186044415, 35184372088831, 70368744177663] (by kernel_rfl) (by kernel_rfl) (by kernel_rfl) ?_
                rcases bool_two (c203) with hb33 | hb33
                ·rw [hb33]; try simp only [hb33, bb] at hL_20
                 refine WK.condT rfl ?_
                 refine WK.sr mixed ?_
                 refine GX.m rfl ?_
                 refine GX.done ?_
                 refine WK.ret ?_
                 refine QF.ret ?_
                 refine QF.ret (hQ_20 _ _ ?_)
                 subst hL_20
                 subst hR
                 exact RetQ.fr [] (.inr rfl) rfl rfl rfl rfl
                ·rw [hb33]; try simp only [hb33, bb] at hL_20
                 refine WK.condF rfl ?_
                 refine WK.skip ?_
                 refine WK.nil (QF.normal (hK23 _ ?_))
                 refine WK.regx mixed ?_
                 refine GX.m rfl ?_
                 refine GX.pure (v' := .int .i64 ((i11 + 1 : Nat) : Int)) rfl rfl rfl rfl (congrArg (PVal.int .i64) (wrap_up hlt20 hlen_20)) ?_
                 refine GX.m rfl ?_
                 refine GX.done ?_
                 refine WK.nil (QF.normal ?_)
                 exact hagain_20 _ (script1.length - (i11 + 1)) ⟨[(1, .ro 9 (script1.map TAct.c)), (5, .ptr 0 0), (7, .ptr 1 0), (8, .int .i64 c34b), (9, .ptr 2 0), (11, .int .i64 ((i11 + 1) : Int))], [(0, .box (TList.c x2)), (1, .box (TBase.c c123a)), (2, .box (TBase.c c132a))], 3⟩ (by omega) (Conv.keep [0, 1, 2] [] [1, 5, 7, 8, 9, 11] rfl rfl (viewE_cons rfl rfl (viewE_cons rfl rfl (viewE_cons rfl rfl (viewE_cons rfl rfl (viewE_cons rfl rfl (viewE_cons rfl rfl viewE_nil)))))) rfl rfl) ⟨i11 + 1, c123a, c132a, (by omega), rfl, (by omega), (by omega), (by omega), (by omega), hL_20, rfl⟩
        ·rw [hb25]; try simp only [hb25, bb] at hL_20
         refine WK.condT rfl ?_
         refine WK.sr mixed ?_
         refine GX.q (.agg (TBase.c b7)) ?_
         refine GX.q (.ptr 3 1) ?_
         refine GX.q (.int .i64 x11.By) ?_
         generalize hc103 : F26_link_Tick b7 x11.By = c103 at hL_20
         have hpo0_c103 := post_Tick b7 x11.By (by omega); rw [hc103] at hpo0_c103
         have hpo1_c103 := post_Tick2 b7 x11.By; rw [hc103] at hpo1_c103
         obtain ⟨c103a, c103b⟩ := c103; try dsimp only at hL_20; try dsimp only at hpo0_c103; try dsimp only at hpo1_c103
         refine GX.callp (r := .tup [.agg [.int .i64 c103a.Level, .int .i64 c103a.Max, .ro 7 (c103a.L.map TLsp.c), .bool c103a.Over], .ro 1 (c103b.map c_u64)]) rfl rfl rfl (f26_ok b7 x11.By (by omega) _ hc103) rfl rfl ?_
         refine GX.m rfl ?_
         refine GX.q (.agg [.int .i64 c103a.Level, .int .i64 c103a.Max, .ro 7 (c103a.L.map TLsp.c), .bool c103a.Over]) ?_
         refine GX.q (.ro 1 (c103b.map c_u64)) ?_
         refine GX.step (v' := .ptr 6 0) (heap' := [(0, .box (TList.c x2)), (1, .box (TBase.c b7)), (2, .box (TBase.c m9)), (3, .box (TAct.c x11)), (4, .box (TBase.c b7)), (5, .box (TBase.c m9)), (6, .box [.int .i64 0, .int .i64 0, .nils, .bool false])]) (next' := 7) rfl rfl rfl rfl rfl rfl rfl ?_
         refine GX.step0 (heap' := [(0, .box (TList.c x2)), (1, .box (TBase.c b7)), (2, .box (TBase.c m9)), (3, .box (TAct.c x11)), (4, .box (TBase.c b7)), (5, .box (TBase.c m9)), (6, .box (TBase.c c103a))]) (next' := 7) rfl rfl rfl rfl rfl ?_
         refine GX.m rfl ?_
         refine GX.done ?_
         refine WK.sr mixed ?_
         refine GX.q (.agg (TBase.c m9)) ?_
         refine GX.q (.ptr 3 1) ?_
         refine GX.q (.int .i64 x11.By) ?_
         generalize hc110 : F27_crossroadsref23_Tick m9 x11.By = c110 at hL_20
         have hpo0_c110 := post_rTick m9 x11.By (by omega); rw [hc110] at hpo0_c110
         have hpo1_c110 := post_rTick2 m9 x11.By; rw [hc110] at hpo1_c110
         obtain ⟨c110a, c110b⟩ := c110; try dsimp only at hL_20; try dsimp only at hpo0_c110; try dsimp only at hpo1_c110
         refine GX.callp (r := .tup [.agg [.int .i64 c110a.Level, .int .i64 c110a.Max, .ro 7 (c110a.L.map TLsp.c), .bool c110a.Over], .ro 1 (c110b.map c_u64)]) rfl rfl rfl (f27_ok m9 x11.By (by omega) _ hc110) rfl rfl ?_
         refine GX.m rfl ?_
         refine GX.q (.agg [.int .i64 c110a.Level, .int .i64 c110a.Max, .ro 7 (c110a.L.map TLsp.c), .bool c110a.Over]) ?_
         refine GX.q (.ro 1 (c110b.map c_u64)) ?_
         refine GX.step (v' := .ptr 7 0) (heap' := [(0, .box (TList.c x2)), (1, .box (TBase.c b7)), (2, .box (TBase.c m9)), (3, .box (TAct.c x11)), (4, .box (TBase.c b7)), (5, .box (TBase.c m9)), (6, .box (TBase.c c103a)), (7, .box [.int .i64 0, .int .i64 0, .nils, .bool false])]) (next' := 8) rfl rfl rfl rfl rfl rfl rfl ?_
         refine GX.step0 (heap' := [(0, .box (TList.c x2)), (1, .box (TBase.c b7)), (2, .box (TBase.c m9)), (3, .box (TAct.c x11)), (4, .box (TBase.c b7)), (5, .box (TBase.c m9)), (6, .box (TBase.c c103a)), (7, .box (TBase.c c110a))]) (next' := 8) rfl rfl rfl rfl rfl ?_
         refine GX.m rfl ?_
         refine GX.done ?_
         refine WK.seq ?_
         refine WK.sr mixed ?_
         iterate 2 refine GX.m rfl ?_
         generalize hc115 : F28_crossroadsref23_IDs c103b c110b = c115 at hL_20
         try dsimp only at hL_20
         refine GX.callp (r := .bool c115) rfl rfl rfl (f28_ok c103b c110b _ hc115) rfl rfl ?_
         refine GX.q (.bool (!c115)) ?_
         refine GX.done ?_
         rcases bool_two (c115) with hb34 | hb34
         ·rw [hb34]; try simp only [hb34, bb] at hL_20
          refine WK.condT rfl ?_
          refine WK.sr mixed ?_
          refine GX.m rfl ?_
          refine GX.done ?_
          refine WK.ret ?_
          refine QF.ret ?_
          refine QF.ret (hQ_20 _ _ ?_)
          subst hL_20
          subst hR
          exact RetQ.fr [] (.inr rfl) rfl rfl rfl rfl
         ·rw [hb34]; try simp only [hb34, bb] at hL_20
          refine WK.condF rfl ?_
          refine WK.skip ?_
          refine WK.sr mixed ?_
          refine GX.q (.agg (TBase.c c103a)) ?_
          refine GX.step0 (heap' := [(0, .box (TList.c x2)), (1, .box (TBase.c c103a)), (2, .box (TBase.c m9)), (3, .box (TAct.c x11)), (4, .box (TBase.c b7)), (5, .box (TBase.c m9)), (6, .box (TBase.c c103a)), (7, .box (TBase.c c110a))]) (next' := 8) rfl rfl rfl rfl rfl ?_
          refine GX.done ?_
          refine WK.regx mixed ?_
          refine GX.q (.agg (TBase.c c110a)) ?_
          refine GX.step0 (heap' := [(0, .box (TList.c x2)), (1, .box (TBase.c c103a)), (2, .box (TBase.c c110a)), (3, .box (TAct.c x11)), (4, .box (TBase.c b7)), (5, .box (TBase.c m9)), (6, .box (TBase.c c103a)), (7, .box (TBase.c c110a))]) (next' := 8) rfl rfl rfl rfl rfl ?_
          refine GX.done ?_
          refine WK.sr mixed ?_
          refine GX.q (.agg (TBase.c c103a)) ?_
          refine GX.q (.agg (TList.c x2)) ?_
          generalize hc149 : F18_link_Differ c103a x2 = c149 at hL_20
          have hpo0_c149 := post_Differ1 c103a x2 (by omega) (by ((try simp only [List.length_append, List.length_cons, List.length_nil, List.length_map, decide_eq_true_eq, decide_eq_false_iff_not] at *) <;> omega)); rw [hc149] at hpo0_c149
          obtain ⟨c149a, c149b⟩ := c149; try dsimp only at hL_20; try dsimp only at hpo0_c149
          refine GX.callp (r := .tup [.ro 1 (c149a.map c_u64), .ro 4 (c149b.map TEntry.c)]) rfl rfl rfl (f18_ok c103a x2 (by omega) (by ((try simp only [List.length_append, List.length_cons, List.length_nil, List.length_map, decide_eq_true_eq, decide_eq_false_iff_not] at *) <;> omega)) _ hc149) rfl rfl ?_
          refine GX.m rfl ?_
          refine GX.q (.ro 1 (c149a.map c_u64)) ?_
          refine GX.q (.ro 4 (c149b.map TEntry.c)) ?_
          iterate 2 refine GX.m rfl ?_
          refine GX.done ?_
          refine WK.seq ?_
          refine WK.drawn mixed ?_
          refine RD.q (.agg (TBase.c c110a)) ?_
          refine RD.q (.agg (TList.c x2)) ?_
          generalize hc155 : F32_crossroadslaw23_list x2 = c155 at hL_20
          have hpo0_c155 := post_list x2 (by ((try simp only [List.length_append, List.length_cons, List.length_nil, List.length_map, decide_eq_true_eq, decide_eq_false_iff_not] at *) <;> omega)); rw [hc155] at hpo0_c155
          try dsimp only at hL_20
          refine RD.callp (r := .agg [.int .i64 c155.Level, .bool c155.Whole, .int .u64 c155.Source, .int .u64 c155.Low, .int .u64 c155.High, .ro 4 (c155.L.map TEntry.c)]) rfl rfl rfl (f32_ok x2 (by ((try simp only [List.length_append, List.length_cons, List.length_nil, List.length_map, decide_eq_true_eq, decide_eq_false_iff_not] at *) <;> omega)) _ hc155) rfl rfl ?_
          generalize hc156 : F31_crossroadsref23_Differ c110a c155 = c156 at hL_20
          obtain ⟨c156a, c156b⟩ := c156; try dsimp only at hL_20
          refine RD.callp (r := .tup [.ro 1 (c156a.map c_u64), .ro 4 (c156b.map TEntry.c)]) rfl rfl rfl (f31_ok c110a c155 (by omega) (by omega) _ hc156) rfl rfl ?_
          refine RD.m rfl ?_
          refine RD.q (.ro 1 (c156a.map c_u64)) ?_
          refine RD.q (.ro 4 (c156b.map TEntry.c)) ?_
          iterate 2 refine RD.m rfl ?_
          refine RD.done rfl ?_
          refine WK.seq ?_
          refine WK.drawn mixed ?_
          refine RD.q (.agg (TBase.c c103a)) ?_
          generalize hc160 : F23_crossroadslaw23_plain c103a = c160 at hL_20
          have hpo0_c160 := post_plain c103a (by omega); rw [hc160] at hpo0_c160
          try dsimp only at hL_20
          refine RD.callp (r := .agg [.int .i64 c160.Level, .int .i64 c160.Max, .ro 7 (c160.L.map TLsp.c), .bool c160.Over]) rfl rfl rfl (f23_ok c103a (by omega) _ hc160) rfl rfl ?_
          refine RD.q (.agg (TBase.c c110a)) ?_
          generalize hc162 : F22_crossroadsref23_Same c160 c110a = c162 at hL_20
          try dsimp only at hL_20
          refine RD.callp (r := .bool c162) rfl rfl rfl (f22_ok c160 c110a _ hc162) rfl rfl ?_
          refine RD.q (.bool (!c162)) ?_
          refine RD.m rfl ?_
          rcases bool_two (c162) with hb35 | hb35
          ·rw [hb35]; try simp only [hb35, bb] at hL_20
           iterate 5 refine RD.skip rfl rfl ?_
           refine RD.q (.bool true) ?_
           refine RD.m rfl ?_
           iterate 4 refine RD.skip rfl rfl ?_
           refine RD.q (.bool true) ?_
           refine RD.m rfl ?_
           iterate 5 refine RD.skip rfl rfl ?_
           refine RD.q (.bool true) ?_
           refine RD.m rfl ?_
           iterate 15 refine RD.skip rfl rfl ?_
           refine RD.q (.bool true) ?_
           refine RD.m rfl ?_
           iterate 3 refine RD.skip rfl rfl ?_
           refine RD.q (.bool true) ?_
           refine RD.doneB [0, 1, 0, 7, 15, 31, 63, 127, 63, 511, 1023, 2047, 4095, 8191, 8191, 32767, 65535, 131071, 262143, 524287, 1048575, 524287, 4194303, 8388607, 16777215, 33554431, 67108863, 67108863, 201326591, 67108863, 603979775, 2147483647, 4294967295, 67108863, 67108863, 17246978047, 67108863, 68786585599, 274877906943, 549755813887, 1099511627775, 2199023255551, 4398046511103, 8796093022207, 17592186044415, 35184372088831, 70368744177663] (by kernel_rfl) (by kernel_rfl) (by kernel_rfl) ?_
           refine WK.condT rfl ?_
           refine WK.sr mixed ?_
           refine GX.m rfl ?_
           refine GX.done ?_
           refine WK.ret ?_
           refine QF.ret ?_
           refine QF.ret (hQ_20 _ _ ?_)
           subst hL_20
           subst hR
           exact RetQ.fr [] (.inr rfl) rfl rfl rfl rfl
          ·rw [hb35]; try simp only [hb35, bb] at hL_20
           refine RD.q (.agg (TBase.c b7)) ?_
           generalize hc166 : F23_crossroadslaw23_plain b7 = c166 at hL_20
           have hpo0_c166 := post_plain b7 (by omega); rw [hc166] at hpo0_c166
           try dsimp only at hL_20
           refine RD.callp (r := .agg [.int .i64 c166.Level, .int .i64 c166.Max, .ro 7 (c166.L.map TLsp.c), .bool c166.Over]) rfl rfl rfl (f23_ok b7 (by omega) _ hc166) rfl rfl ?_
           refine RD.q (.agg (TBase.c m9)) ?_
           generalize hc168 : F22_crossroadsref23_Same c166 m9 = c168 at hL_20
           try dsimp only at hL_20
           refine RD.callp (r := .bool c168) rfl rfl rfl (f22_ok c166 m9 _ hc168) rfl rfl ?_
           iterate 2 refine RD.q (.bool (!c168)) ?_
           refine RD.m rfl ?_
           rcases bool_two (c168) with hb36 | hb36
           ·rw [hb36]; try simp only [hb36, bb] at hL_20
            iterate 4 refine RD.skip rfl rfl ?_
            refine RD.q (.bool true) ?_
            refine RD.m rfl ?_
            iterate 5 refine RD.skip rfl rfl ?_
            refine RD.q (.bool true) ?_
            refine RD.m rfl ?_
            iterate 15 refine RD.skip rfl rfl ?_
            refine RD.q (.bool true) ?_
            refine RD.m rfl ?_
            iterate 3 refine RD.skip rfl rfl ?_
            refine RD.q (.bool true) ?_
            refine RD.doneB [0, 1, 0, 7, 15, 31, 63, 127, 63, 511, 1023, 2047, 4095, 8191, 8191, 32767, 65535, 131071, 262143, 524287, 1048575, 524287, 4194303, 8388607, 16777215, 33554431, 67108863, 67108863, 201326591, 67108863, 603979775, 2147483647, 4294967295, 67108863, 67108863, 17246978047, 67108863, 68786585599, 274877906943, 549755813887, 1099511627775, 2199023255551, 4398046511103, 8796093022207, 17592186044415, 35184372088831, 70368744177663] (by kernel_rfl) (by kernel_rfl) (by kernel_rfl) ?_
            refine WK.condT rfl ?_
            refine WK.sr mixed ?_
            refine GX.m rfl ?_
            refine GX.done ?_
            refine WK.ret ?_
            refine QF.ret ?_
            refine QF.ret (hQ_20 _ _ ?_)
            subst hL_20
            subst hR
            exact RetQ.fr [] (.inr rfl) rfl rfl rfl rfl
           ·rw [hb36]; try simp only [hb36, bb] at hL_20
            iterate 2 refine RD.m rfl ?_
            generalize hc174 : F28_crossroadsref23_IDs c149a c156a = c174 at hL_20
            try dsimp only at hL_20
            refine RD.callp (r := .bool c174) rfl rfl rfl (f28_ok c149a c156a _ hc174) rfl rfl ?_
            iterate 2 refine RD.q (.bool (!c174)) ?_
            refine RD.m rfl ?_
            rcases bool_two (c174) with hb37 | hb37
            ·rw [hb37]; try simp only [hb37, bb] at hL_20
             iterate 5 refine RD.skip rfl rfl ?_
             refine RD.q (.bool true) ?_
             refine RD.m rfl ?_
             iterate 15 refine RD.skip rfl rfl ?_
             refine RD.q (.bool true) ?_
             refine RD.m rfl ?_
             iterate 3 refine RD.skip rfl rfl ?_
             refine RD.q (.bool true) ?_
             refine RD.doneB [0, 1, 0, 7, 15, 31, 63, 127, 63, 511, 1023, 2047, 4095, 8191, 8191, 32767, 65535, 131071, 262143, 524287, 1048575, 524287, 4194303, 8388607, 16777215, 33554431, 67108863, 67108863, 201326591, 67108863, 603979775, 2147483647, 4294967295, 67108863, 67108863, 17246978047, 67108863, 68786585599, 274877906943, 549755813887, 1099511627775, 2199023255551, 4398046511103, 8796093022207, 17592186044415, 35184372088831, 70368744177663] (by kernel_rfl) (by kernel_rfl) (by kernel_rfl) ?_
             refine WK.condT rfl ?_
             refine WK.sr mixed ?_
             refine GX.m rfl ?_
             refine GX.done ?_
             refine WK.ret ?_
             refine QF.ret ?_
             refine QF.ret (hQ_20 _ _ ?_)
             subst hL_20
             subst hR
             exact RetQ.fr [] (.inr rfl) rfl rfl rfl rfl
            ·rw [hb37]; try simp only [hb37, bb] at hL_20
             refine RD.m rfl ?_
             generalize hc179 : F34_crossroadslaw23_rows c149b = c179 at hL_20
             try dsimp only at hL_20
             refine RD.callp (r := .ro 4 (c179.map TEntry.c)) rfl rfl rfl (f34_ok c149b (by omega) _ hc179) rfl rfl ?_
             refine RD.m rfl ?_
             generalize hc181 : F33_crossroadsref22_Entries c179 c156b = c181 at hL_20
             try dsimp only at hL_20
             refine RD.callp (r := .bool c181) rfl rfl rfl (f33_ok c179 c156b _ hc181) rfl rfl ?_
             iterate 2 refine RD.q (.bool (!c181)) ?_
             refine RD.m rfl ?_
             rcases bool_two (c181) with hb38 | hb38
             ·rw [hb38]; try simp only [hb38, bb] at hL_20
              iterate 15 refine RD.skip rfl rfl ?_
              refine RD.q (.bool true) ?_
              refine RD.m rfl ?_
              iterate 3 refine RD.skip rfl rfl ?_
              refine RD.q (.bool true) ?_
              refine RD.doneB [0, 1, 0, 7, 15, 31, 63, 127, 63, 511, 1023, 2047, 4095, 8191, 8191, 32767, 65535, 131071, 262143, 524287, 1048575, 524287, 4194303, 8388607, 16777215, 33554431, 67108863, 67108863, 201326591, 67108863, 603979775, 2147483647, 4294967295, 67108863, 67108863, 17246978047, 67108863, 68786585599, 274877906943, 549755813887, 1099511627775, 2199023255551, 4398046511103, 8796093022207, 17592186044415, 35184372088831, 70368744177663] (by kernel_rfl) (by kernel_rfl) (by kernel_rfl) ?_
              refine WK.condT rfl ?_
              refine WK.sr mixed ?_
              refine GX.m rfl ?_
              refine GX.done ?_
              refine WK.ret ?_
              refine QF.ret ?_
              refine QF.ret (hQ_20 _ _ ?_)
              subst hL_20
              subst hR
              exact RetQ.fr [] (.inr rfl) rfl rfl rfl rfl
             ·rw [hb38]; try simp only [hb38, bb] at hL_20
              refine RD.q (.agg (TBase.c c103a)) ?_
              refine RD.q (.ptr 0 3) ?_
              refine RD.q (.int .u64 x2.Low) ?_
              refine RD.q (.ptr 0 4) ?_
              refine RD.q (.int .u64 x2.High) ?_
              generalize hc190 : F17_link_List c103a x2.Low x2.High = c190 at hL_20
              have hpo0_c190 := post_List1 c103a x2.Low x2.High (by omega); rw [hc190] at hpo0_c190
              try dsimp only at hL_20
              refine RD.callp (r := .ro 4 (c190.map TEntry.c)) rfl rfl rfl (f17_ok c103a x2.Low x2.High (by omega) _ hc190) rfl rfl ?_
              generalize hc191 : F34_crossroadslaw23_rows c190 = c191 at hL_20
              try dsimp only at hL_20
              refine RD.callp (r := .ro 4 (c191.map TEntry.c)) rfl rfl rfl (f34_ok c190 (by omega) _ hc191) rfl rfl ?_
              refine RD.q (.agg (TBase.c c110a)) ?_
              refine RD.q (.ptr 0 3) ?_
              refine RD.q (.int .u64 x2.Low) ?_
              refine RD.q (.ptr 0 4) ?_
              refine RD.q (.int .u64 x2.High) ?_
              generalize hc197 : F35_crossroadsref23_List c110a x2.Low x2.High = c197 at hL_20
              have hpo0_c197 := post_rList1 c110a x2.Low x2.High (by omega); rw [hc197] at hpo0_c197
              try dsimp only at hL_20
              refine RD.callp (r := .ro 4 (c197.map TEntry.c)) rfl rfl rfl (f35_ok c110a x2.Low x2.High (by omega) _ hc197) rfl rfl ?_
              generalize hc198 : F33_crossroadsref22_Entries c191 c197 = c198 at hL_20
              try dsimp only at hL_20
              refine RD.callp (r := .bool c198) rfl rfl rfl (f33_ok c191 c197 _ hc198) rfl rfl ?_
              iterate 2 refine RD.q (.bool (!c198)) ?_
              refine RD.m rfl ?_
              rcases bool_two (c198) with hb39 | hb39
              ·rw [hb39]; try simp only [hb39, bb] at hL_20
               iterate 3 refine RD.skip rfl rfl ?_
               refine RD.q (.bool true) ?_
               refine RD.doneB [0, 1, 0, 7, 15, 31, 63, 127, 63, 511, 1023, 2047, 4095, 8191, 8191, 32767, 65535, 131071, 262143, 524287, 1048575, 524287, 4194303, 8388607, 16777215, 33554431, 67108863, 67108863, 201326591, 67108863, 603979775, 2147483647, 4294967295, 67108863, 67108863, 17246978047, 67108863, 68786585599, 274877906943, 549755813887, 1099511627775, 2199023255551, 4398046511103, 8796093022207, 17592186044415, 35184372088831, 70368744177663] (by kernel_rfl) (by kernel_rfl) (by kernel_rfl) ?_
               refine WK.condT rfl ?_
               refine WK.sr mixed ?_
               refine GX.m rfl ?_
               refine GX.done ?_
               refine WK.ret ?_
               refine QF.ret ?_
               refine QF.ret (hQ_20 _ _ ?_)
               subst hL_20
               subst hR
               exact RetQ.fr [] (.inr rfl) rfl rfl rfl rfl
              ·rw [hb39]; try simp only [hb39, bb] at hL_20
               refine RD.q (.agg (TBase.c c103a)) ?_
               generalize hc203 : F36_link_May c103a = c203 at hL_20
               try dsimp only at hL_20
               refine RD.callp (r := .bool c203) rfl rfl rfl (f36_ok c103a (by omega) _ hc203) rfl rfl ?_
               iterate 2 refine RD.q (.bool (!c203)) ?_
               refine RD.doneB [0, 1, 0, 7, 15, 31, 63, 127, 63, 511, 1023, 2047, 4095, 8191, 8191, 32767, 65535, 131071, 262143, 524287, 1048575, 524287, 4194303, 8388607, 16777215, 33554431, 67108863, 67108863, 201326591, 67108863, 603979775, 2147483647, 4294967295, 67108863, 67108863, 17246978047, 67108863, 68786585599, 274877906943, 549755813887, 1099511627775, 2199023255551, 4398046511103, 8796093022207, 17592186044415, 35184372088831, 70368744177663] (by kernel_rfl) (by kernel_rfl) (by kernel_rfl) ?_
               rcases bool_two (c203) with hb40 | hb40
               ·rw [hb40]; try simp only [hb40, bb] at hL_20
                refine WK.condT rfl ?_
                refine WK.sr mixed ?_
                refine GX.m rfl ?_
                refine GX.done ?_
                refine WK.ret ?_
                refine QF.ret ?_
                refine QF.ret (hQ_20 _ _ ?_)
                subst hL_20
                subst hR
                exact RetQ.fr [] (.inr rfl) rfl rfl rfl rfl
               ·rw [hb40]; try simp only [hb40, bb] at hL_20
                refine WK.condF rfl ?_
                refine WK.skip ?_
                refine WK.nil (QF.normal (hK23 _ ?_))
                refine WK.regx mixed ?_
                refine GX.m rfl ?_
                refine GX.pure (v' := .int .i64 ((i11 + 1 : Nat) : Int)) rfl rfl rfl rfl (congrArg (PVal.int .i64) (wrap_up hlt20 hlen_20)) ?_
                refine GX.m rfl ?_
                refine GX.done ?_
                refine WK.nil (QF.normal ?_)
                exact hagain_20 _ (script1.length - (i11 + 1)) ⟨[(1, .ro 9 (script1.map TAct.c)), (5, .ptr 0 0), (7, .ptr 1 0), (8, .int .i64 c34b), (9, .ptr 2 0), (11, .int .i64 ((i11 + 1) : Int))], [(0, .box (TList.c x2)), (1, .box (TBase.c c103a)), (2, .box (TBase.c c110a))], 3⟩ (by omega) (Conv.keep [0, 1, 2] [] [1, 5, 7, 8, 9, 11] rfl rfl (viewE_cons rfl rfl (viewE_cons rfl rfl (viewE_cons rfl rfl (viewE_cons rfl rfl (viewE_cons rfl rfl (viewE_cons rfl rfl viewE_nil)))))) rfl rfl) ⟨i11 + 1, c103a, c110a, (by omega), rfl, (by omega), (by omega), (by omega), (by omega), hL_20, rfl⟩
   ·rw [hb4]; try simp only [hb4, bb] at hR
    refine WK.condT rfl ?_
    refine WK.sr mixed ?_
    iterate 2 refine GX.m rfl ?_
    refine GX.q (.bool (decide (c34b = c42b))) ?_
    refine GX.m rfl ?_
    rw [hb1]
    refine GX.q (.ptr 1 5) ?_
    refine GX.q (.ro 4 (x2.L.map TEntry.c)) ?_
    refine GX.pure (v' := .int .i64 (x2.L.length : Int)) rfl rfl rfl rfl (len_map _ _) ?_
    iterate 2 refine GX.q (.bool (decide (60 < (x2.L.length : Int)))) ?_
    refine GX.m rfl ?_
    rw [hb4]
    generalize hc71 : F11_crossroadslaw23_alive = c71 at hR
    try dsimp only at hR
    refine GX.callp (r := .bool c71) rfl rfl rfl (f11_ok  _ hc71) rfl rfl ?_
    refine GX.q (.bool c71) ?_
    refine GX.m rfl ?_
    refine GX.done ?_
    refine WK.ret ?_
    subst hR
    exact RetQ.fr [] (.inr rfl) rfl rfl rfl rfl

end Go.Proofs.Ytpcpclbdajebjaa.Abs
