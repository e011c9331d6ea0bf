/- The functions walked: each computes its Lean function (printed by this work's own program gen.py). -/
import Derived.Test.YtagiapphmkdnmaaW1
set_option linter.unusedVariables false
set_option linter.unusedSimpArgs false
set_option maxRecDepth 10000
set_option maxHeartbeats 4000000
namespace Go.Proofs.Ytagiapphmkdnmaa.Abs
open Go

theorem f8_ok (m0 : List TClause) (R : Bool) (hR : F8_crossroadsref08_MayAll m0 = R) : FnOk Try.prog 8 [.ro 12 (m0.map TClause.c)] [] 0 (.bool R) [] 0 := by
  refine FnOk.wk i8 rfl rfl ?_
  unfold F8_crossroadsref08_MayAll at hR
  change WK _ _ _ [ac8] _ ⟨[(0, .ro 12 (m0.map TClause.c))], [], 0⟩
  unfold ac8
  refine WK.seq ?_
  refine WK.regx mixed ?_
  refine GX.pure (v' := .bool false) rfl rfl rfl rfl rfl ?_
  refine GX.done ?_
  refine WK.seq ?_
  refine WK.seq ?_
  refine WK.regx mixed ?_
  refine GX.pure (v' := .int .i64 0) rfl rfl rfl rfl rfl ?_
  refine GX.done ?_
  refine WK.len (t := 0) rfl (by simp) (fun hlen_1 => ?_)
  rw [List.length_map] at hlen_1
  generalize hZ_1 : F8_crossroadsref08_MayAll_l1 m0 0 m0 = Z_1 at hR
  refine WK.forK (fun k s => ∃ (i3 : Nat), i3 ≤ m0.length ∧ k = m0.length - i3 ∧ F8_crossroadsref08_MayAll_l1 m0 i3 (m0.drop i3) = Z_1 ∧ s = ⟨[(0, .ro 12 (m0.map TClause.c)), (3, .int .i64 (i3 : Int))], [], 0⟩) m0.length ⟨⟨[(0, .ro 12 (m0.map TClause.c)), (3, .int .i64 (0 : Int))], [], 0⟩, Conv.keep [] [] [0, 3] rfl rfl (viewE_cons rfl rfl (viewE_cons rfl rfl viewE_nil)) rfl rfl, 0, (by first | omega | ((try simp only [List.length_append, List.length_cons, List.length_nil] at *) <;> omega) | (have hlf := may03_len (by assumption) (by assumption); omega)), rfl, hZ_1, rfl⟩ ?_
  rintro _ _ ⟨i3, hi_1, rfl, hL_1, rfl⟩ again_1 out_1 Q_1 hagain_1 hout_1 hQ_1
  refine WK.seq ?_
  refine WK.seq ?_
  refine WK.regx mixed ?_
  refine GX.pure (v' := .int .i64 (i3 : Int)) rfl rfl rfl rfl rfl ?_
  refine GX.pure (v' := .ro 12 (m0.map TClause.c)) rfl rfl rfl rfl rfl ?_
  refine GX.pure (v' := .int .i64 (m0.length : Int)) rfl rfl rfl rfl (len_map _ _) ?_
  refine GX.pure (v' := .bool (decide ((i3 : Int) < (m0.length : Int)))) rfl rfl rfl rfl rfl ?_
  refine GX.done ?_
  rcases bool_two (decide ((i3 : Int) < (m0.length : Int))) with hb2 | hb2
  · rw [hb2]
    rw [drop_end hb2, F8_crossroadsref08_MayAll_l1] at hL_1
    refine WK.condF rfl ?_
    refine WK.exit ?_
    refine QF.exit (hout_1 _ ?_)
    subst hL_1
    try dsimp only [cond_true, cond_false] at hR
    refine WK.seq ?_
    refine WK.regx mixed ?_
    refine GX.pure (v' := .bool true) rfl rfl rfl rfl rfl ?_
    refine GX.done ?_
    refine WK.ret ?_
    subst hR
    exact RetQ.fr [] (.inr rfl) rfl rfl rfl rfl
  · rw [hb2]
    obtain ⟨x3, hx1, hd1, hlt1⟩ := drop_more hb2
    rw [hd1, F8_crossroadsref08_MayAll_l1] at hL_1
    refine WK.condT rfl ?_
    refine WK.skip ?_
    refine WK.seq ?_
    refine WK.blockK (fun _ hK3 => ?_)
    refine WK.seq ?_
    refine WK.drawn mixed ?_
    refine RD.pure (v' := .ro 12 (m0.map TClause.c)) rfl rfl rfl rfl rfl ?_
    refine RD.pure (v' := .int .i64 (i3 : Int)) rfl rfl rfl rfl rfl ?_
    refine RD.idxT (c := TClause.c) (x := x3) rfl rfl rfl (Int.natCast_nonneg _) hx1 ?_
    refine RD.pure (v' := .agg (TClause.c x3)) rfl rfl rfl rfl rfl ?_
    generalize hc14 : F16_crossroadsref08_May x3 = c14 at hL_1
    try dsimp only at hL_1
    refine RD.callp (r := .bool c14) rfl rfl rfl (f16_ok x3 _ hc14) rfl rfl ?_
    refine RD.pure (v' := .bool (!c14)) rfl rfl rfl rfl rfl ?_
    refine RD.pure (v' := .bool (!c14)) rfl rfl rfl rfl rfl ?_
    rcases bool_two (c14) with hb4 | hb4
    · rw [hb4]; try simp only [hb4, cond_true, cond_false, Bool.true_and, Bool.false_and, Bool.true_or, Bool.false_or, Bool.not_true, Bool.not_false] at hL_1
      refine RD.skip rfl rfl ?_
      refine RD.skip rfl rfl ?_
      refine RD.skip rfl rfl ?_
      refine RD.skip rfl rfl ?_
      refine RD.skip rfl rfl ?_
      refine RD.skip rfl rfl ?_
      refine RD.skip rfl rfl ?_
      refine RD.skip rfl rfl ?_
      refine RD.skip rfl rfl ?_
      refine RD.skip rfl rfl ?_
      refine RD.skip rfl rfl ?_
      refine RD.skip rfl rfl ?_
      refine RD.skip rfl rfl ?_
      refine RD.skip rfl rfl ?_
      refine RD.skip rfl rfl ?_
      refine RD.skip rfl rfl ?_
      refine RD.pure (v' := .bool true) rfl rfl rfl rfl rfl ?_
      refine RD.done rfl ?_
      refine WK.condT rfl ?_
      refine WK.seq ?_
      refine WK.regx mixed ?_
      refine GX.pure (v' := .bool false) rfl rfl rfl rfl rfl ?_
      refine GX.done ?_
      refine WK.ret ?_
      refine QF.ret ?_
      refine QF.ret (hQ_1 _ _ ?_)
      subst hL_1
      subst hR
      exact RetQ.fr [] (.inr rfl) rfl rfl rfl rfl
    · rw [hb4]; try simp only [hb4, cond_true, cond_false, Bool.true_and, Bool.false_and, Bool.true_or, Bool.false_or, Bool.not_true, Bool.not_false] at hL_1
      refine RD.pure (v' := .int .i64 (i3 : Int)) rfl rfl rfl rfl rfl ?_
      refine RD.pure (v' := .bool (decide (0 < (i3 : Int)))) rfl rfl rfl rfl rfl ?_
      refine RD.pure (v' := .bool (decide (0 < (i3 : Int)))) rfl rfl rfl rfl rfl ?_
      rcases bool_two (decide (0 < (i3 : Int))) with hb5 | hb5
      · rw [hb5]; try simp only [hb5, cond_true, cond_false, Bool.true_and, Bool.false_and, Bool.true_or, Bool.false_or, Bool.not_true, Bool.not_false] at hL_1
        refine RD.skip rfl rfl ?_
        refine RD.skip rfl rfl ?_
        refine RD.skip rfl rfl ?_
        refine RD.skip rfl rfl ?_
        refine RD.skip rfl rfl ?_
        refine RD.skip rfl rfl ?_
        refine RD.skip rfl rfl ?_
        refine RD.skip rfl rfl ?_
        refine RD.skip rfl rfl ?_
        refine RD.skip rfl rfl ?_
        refine RD.skip rfl rfl ?_
        refine RD.skip rfl rfl ?_
        refine RD.pure (v' := .bool false) rfl rfl rfl rfl rfl ?_
        refine RD.pure (v' := .bool false) rfl rfl rfl rfl rfl ?_
        refine RD.done rfl ?_
        refine WK.condF rfl ?_
        refine WK.skip ?_
        refine WK.nil (QF.normal (hK3 _ ?_))
        refine WK.regx mixed ?_
        refine GX.pure (v' := .int .i64 (i3 : Int)) rfl rfl rfl rfl rfl ?_
        refine GX.pure (v' := .int .i64 ((i3 + 1 : Nat) : Int)) rfl rfl rfl rfl (congrArg (PVal.int .i64) (wrap_up hlt1 hlen_1)) ?_
        refine GX.pure (v' := .int .i64 ((i3 + 1 : Nat) : Int)) rfl rfl rfl rfl rfl ?_
        refine GX.done ?_
        refine WK.nil (QF.normal ?_)
        exact hagain_1 _ (m0.length - (i3 + 1)) ⟨[(0, .ro 12 (m0.map TClause.c)), (3, .int .i64 ((i3 + 1) : Int))], [], 0⟩ (by first | omega | ((try simp only [List.length_append, List.length_cons, List.length_nil] at *) <;> omega) | (have hlf := may03_len (by assumption) (by assumption); omega)) (Conv.keep [] [] [0, 3] rfl rfl (viewE_cons rfl rfl (viewE_cons rfl rfl viewE_nil)) rfl rfl) ⟨i3 + 1, (by first | omega | ((try simp only [List.length_append, List.length_cons, List.length_nil] at *) <;> omega) | (have hlf := may03_len (by assumption) (by assumption); omega)), rfl, hL_1, rfl⟩
      · rw [hb5]; try simp only [hb5, cond_true, cond_false, Bool.true_and, Bool.false_and, Bool.true_or, Bool.false_or, Bool.not_true, Bool.not_false] at hL_1
        refine RD.pure (v' := .ro 12 (m0.map TClause.c)) rfl rfl rfl rfl rfl ?_
        refine RD.pure (v' := .int .i64 (i3 : Int)) rfl rfl rfl rfl rfl ?_
        refine RD.idxT (c := TClause.c) (x := x3) rfl rfl rfl (Int.natCast_nonneg _) hx1 ?_
        refine RD.pure (v' := .rptr (TClause.c x3)) rfl rfl rfl rfl rfl ?_
        refine RD.pure (v' := .int .i64 x3.Seq) rfl rfl rfl rfl rfl ?_
        refine RD.pure (v' := .ro 12 (m0.map TClause.c)) rfl rfl rfl rfl rfl ?_
        refine RD.pure (v' := .int .i64 (i3 : Int)) rfl rfl rfl rfl rfl ?_
        refine RD.pure (v' := .int .i64 ((i3 - 1 : Nat) : Int)) rfl rfl rfl rfl (congrArg (PVal.int .i64) (wrap_down hb5 hlt1 hlen_1)) ?_
        refine RD.idxT (c := TClause.c) (x := (m0.getD (i3 - 1) default)) rfl rfl rfl (Int.natCast_nonneg _) (getD_at (by first | exact wrap_u64_nonneg _ | exact wrap_u32_nonneg _ | omega | exact F28_slices_IndexFunc_lt (by assumption) (by assumption) | exact F47_slices_IndexFunc_lt (by assumption) (by assumption) | ((try simp only [decide_eq_true_eq, decide_eq_false_iff_not, Bool.not_eq_true, Bool.not_eq_false] at *); first | omega | (rw [wrap64_of (by omega) (by omega)]; omega) | (unfold min_ max_; (repeat' split) <;> first | omega | (rw [wrap64_of (by omega) (by omega)]; omega))))) ?_
        refine RD.pure (v' := .rptr [.int .i64 ((m0.getD (i3 - 1) default).Seq), .bool ((m0.getD (i3 - 1) default).Permit), .ro 6 (((m0.getD (i3 - 1) default).Listf).map TRule.c), .int .i64 ((m0.getD (i3 - 1) default).MKind), .int .i64 ((m0.getD (i3 - 1) default).MLow), .int .i64 ((m0.getD (i3 - 1) default).MHigh), .ro 1 (((m0.getD (i3 - 1) default).MTags).map c_u32), .int .i64 ((m0.getD (i3 - 1) default).SCost), .int .i64 ((m0.getD (i3 - 1) default).SPlus), .int .i64 ((m0.getD (i3 - 1) default).SKind), .bool ((m0.getD (i3 - 1) default).SetTag), .int .u32 ((m0.getD (i3 - 1) default).STag)]) rfl rfl rfl rfl rfl ?_
        refine RD.pure (v' := .int .i64 ((m0.getD (i3 - 1) default).Seq)) rfl rfl rfl rfl rfl ?_
        refine RD.pure (v' := .bool (decide (x3.Seq ≤ (m0.getD (i3 - 1) default).Seq))) rfl rfl rfl rfl rfl ?_
        refine RD.pure (v' := .bool (decide (x3.Seq ≤ (m0.getD (i3 - 1) default).Seq))) rfl rfl rfl rfl rfl ?_
        refine RD.pure (v' := .bool (decide (x3.Seq ≤ (m0.getD (i3 - 1) default).Seq))) rfl rfl rfl rfl rfl ?_
        refine RD.done rfl ?_
        rcases bool_two (decide (x3.Seq ≤ (m0.getD (i3 - 1) default).Seq)) with hb6 | hb6
        · rw [hb6]; try simp only [hb6, cond_true, cond_false, Bool.true_and, Bool.false_and, Bool.true_or, Bool.false_or, Bool.not_true, Bool.not_false] at hL_1
          refine WK.condF rfl ?_
          refine WK.skip ?_
          refine WK.nil (QF.normal (hK3 _ ?_))
          refine WK.regx mixed ?_
          refine GX.pure (v' := .int .i64 (i3 : Int)) rfl rfl rfl rfl rfl ?_
          refine GX.pure (v' := .int .i64 ((i3 + 1 : Nat) : Int)) rfl rfl rfl rfl (congrArg (PVal.int .i64) (wrap_up hlt1 hlen_1)) ?_
          refine GX.pure (v' := .int .i64 ((i3 + 1 : Nat) : Int)) rfl rfl rfl rfl rfl ?_
          refine GX.done ?_
          refine WK.nil (QF.normal ?_)
          exact hagain_1 _ (m0.length - (i3 + 1)) ⟨[(0, .ro 12 (m0.map TClause.c)), (3, .int .i64 ((i3 + 1) : Int))], [], 0⟩ (by first | omega | ((try simp only [List.length_append, List.length_cons, List.length_nil] at *) <;> omega) | (have hlf := may03_len (by assumption) (by assumption); omega)) (Conv.keep [] [] [0, 3] rfl rfl (viewE_cons rfl rfl (viewE_cons rfl rfl viewE_nil)) rfl rfl) ⟨i3 + 1, (by first | omega | ((try simp only [List.length_append, List.length_cons, List.length_nil] at *) <;> omega) | (have hlf := may03_len (by assumption) (by assumption); omega)), rfl, hL_1, rfl⟩
        · rw [hb6]; try simp only [hb6, cond_true, cond_false, Bool.true_and, Bool.false_and, Bool.true_or, Bool.false_or, Bool.not_true, Bool.not_false] at hL_1
          refine WK.condT rfl ?_
          refine WK.seq ?_
          refine WK.regx mixed ?_
          refine GX.pure (v' := .bool false) rfl rfl rfl rfl rfl ?_
          refine GX.done ?_
          refine WK.ret ?_
          refine QF.ret ?_
          refine QF.ret (hQ_1 _ _ ?_)
          subst hL_1
          subst hR
          exact RetQ.fr [] (.inr rfl) rfl rfl rfl rfl

theorem f37_ok (x0 : TRule) (R : TRule) (hR : F37_crossroadslaw08_rule x0 = R) : FnOk Try.prog 37 [.agg (TRule.c x0)] [] 0 (.agg (TRule.c R)) [] 0 := by
  refine FnOk.wk i37 rfl rfl ?_
  unfold F37_crossroadslaw08_rule at hR
  change WK _ _ _ [ac37] _ ⟨[(0, .agg (TRule.c x0))], [], 0⟩
  unfold ac37
  refine WK.seq ?_
  refine WK.regx mixed ?_
  refine GX.step (v' := .ptr 0 0) (heap' := [(0, .box (TRule.c x0))]) (next' := 1) rfl rfl rfl rfl rfl rfl rfl ?_
  refine GX.step (v' := .ptr 1 0) (heap' := [(0, .box (TRule.c x0)), (1, .box [.int .i64 0, .bool false, .int .u32 0, .int .i64 0, .int .i64 0, .int .i64 0])]) (next' := 2) rfl rfl rfl rfl rfl rfl rfl ?_
  refine GX.done ?_
  refine WK.seq ?_
  refine WK.regx mixed ?_
  refine GX.pure (v' := .ptr 0 0) rfl rfl rfl rfl rfl ?_
  refine GX.pure (v' := .int .i64 x0.Seq) rfl rfl rfl rfl rfl ?_
  refine GX.pure (v' := .ptr 0 1) rfl rfl rfl rfl rfl ?_
  refine GX.pure (v' := .bool x0.Permit) rfl rfl rfl rfl rfl ?_
  refine GX.pure (v' := .ptr 0 2) rfl rfl rfl rfl rfl ?_
  refine GX.pure (v' := .agg [.int .u32 x0.P.A, .int .i64 x0.P.N]) rfl rfl rfl rfl rfl ?_
  refine GX.pure (v' := .ptr 0 4) rfl rfl rfl rfl rfl ?_
  refine GX.pure (v' := .int .i64 x0.Ge) rfl rfl rfl rfl rfl ?_
  refine GX.pure (v' := .ptr 0 5) rfl rfl rfl rfl rfl ?_
  refine GX.pure (v' := .int .i64 x0.Le) rfl rfl rfl rfl rfl ?_
  refine GX.pure (v' := .agg (TRule.c x0)) rfl rfl rfl rfl rfl ?_
  refine GX.step0 (heap' := [(0, .box (TRule.c x0)), (1, .box (TRule.c x0))]) (next' := 2) rfl rfl rfl rfl rfl ?_
  refine GX.done ?_
  refine WK.ret ?_
  subst hR
  exact RetQ.fr [] (.inr rfl) rfl rfl rfl rfl

theorem f17_ok (x0 : TClause) (hp0 : x0.Listf.length ≤ 1048576) (R : TClause) (hR : F17_crossroadslaw08_plain x0 = R) : FnOk Try.prog 17 [.agg (TClause.c x0)] [] 0 (.agg (TClause.c R)) [] 0 := by
  refine FnOk.wk i17 rfl rfl ?_
  unfold F17_crossroadslaw08_plain at hR
  change WK _ _ _ [ac17] _ ⟨[(0, .agg (TClause.c x0))], [], 0⟩
  unfold ac17
  refine WK.seq ?_
  refine WK.regx mixed ?_
  refine GX.step (v' := .ptr 0 0) (heap' := [(0, .box (TClause.c x0))]) (next' := 1) rfl rfl rfl rfl rfl rfl rfl ?_
  refine GX.step (v' := .ptr 1 0) (heap' := [(0, .box (TClause.c x0)), (1, .box [.int .i64 0, .bool false, .nils, .int .i64 0, .int .i64 0, .int .i64 0, .nils, .int .i64 0, .int .i64 0, .int .i64 0, .bool false, .int .u32 0])]) (next' := 2) rfl rfl rfl rfl rfl rfl rfl ?_
  refine GX.done ?_
  refine WK.seq ?_
  refine WK.regx mixed ?_
  refine GX.step (v' := .own 2 6 0 (([] : List TRule)).length) (heap' := [(0, .box (TClause.c x0)), (1, .box [.int .i64 0, .bool false, .nils, .int .i64 0, .int .i64 0, .int .i64 0, .nils, .int .i64 0, .int .i64 0, .int .i64 0, .bool false, .int .u32 0]), (2, .row 6 74 (([] : List TRule).map TRule.c))]) (next' := 3) rfl rfl rfl rfl rfl rfl rfl ?_
  refine GX.pure (v' := .own 2 6 0 (([] : List TRule)).length) rfl rfl rfl rfl rfl ?_
  refine GX.done ?_
  refine WK.seq ?_
  refine WK.seq ?_
  refine WK.regx mixed ?_
  refine GX.pure (v' := .int .i64 0) rfl rfl rfl rfl rfl ?_
  refine GX.done ?_
  refine WK.lenb (id := 0) (j := 2) rfl rfl (by simp) (fun hlen_4 => ?_)
  rw [List.length_map] at hlen_4
  generalize hZ_4 : F17_crossroadslaw08_plain_l1 ([] : List TRule) x0.Listf = Z_4 at hR
  refine WK.forK (fun k s => ∃ (i4 : Nat) (l3 : List TRule), i4 ≤ x0.Listf.length ∧ k = x0.Listf.length - i4 ∧ l3.length ≤ i4 + 0 ∧ F17_crossroadslaw08_plain_l1 l3 (x0.Listf.drop i4) = Z_4 ∧ s = ⟨[(1, .ptr 0 0), (2, .ptr 1 0), (3, .own 2 6 0 l3.length), (4, .int .i64 (i4 : Int))], [(0, .box (TClause.c x0)), (1, .box [.int .i64 0, .bool false, .nils, .int .i64 0, .int .i64 0, .int .i64 0, .nils, .int .i64 0, .int .i64 0, .int .i64 0, .bool false, .int .u32 0]), (2, .row 6 74 (l3.map TRule.c))], 3⟩) x0.Listf.length ⟨⟨[(1, .ptr 0 0), (2, .ptr 1 0), (3, .own 2 6 0 ([] : List TRule).length), (4, .int .i64 (0 : Int))], [(0, .box (TClause.c x0)), (1, .box [.int .i64 0, .bool false, .nils, .int .i64 0, .int .i64 0, .int .i64 0, .nils, .int .i64 0, .int .i64 0, .int .i64 0, .bool false, .int .u32 0]), (2, .row 6 74 (([] : List TRule).map TRule.c))], 3⟩, Conv.keep [0, 1, 2] [] [1, 2, 3, 4] rfl rfl (viewE_cons rfl rfl (viewE_cons rfl rfl (viewE_cons rfl rfl (viewE_cons rfl rfl viewE_nil)))) rfl rfl, 0, ([] : List TRule), (by first | omega | ((try simp only [List.length_append, List.length_cons, List.length_nil] at *) <;> omega) | (have hlf := may03_len (by assumption) (by assumption); omega)), rfl, (by first | omega | ((try simp only [List.length_append, List.length_cons, List.length_nil] at *) <;> omega) | (have hlf := may03_len (by assumption) (by assumption); omega)), hZ_4, rfl⟩ ?_
  rintro _ _ ⟨i4, l3, hi_4, rfl, hinv4_l3, hL_4, rfl⟩ again_4 out_4 Q_4 hagain_4 hout_4 hQ_4
  refine WK.seq ?_
  refine WK.seq ?_
  refine WK.regx mixed ?_
  refine GX.pure (v' := .int .i64 (i4 : Int)) rfl rfl rfl rfl rfl ?_
  refine GX.pure (v' := .ptr 0 2) rfl rfl rfl rfl rfl ?_
  refine GX.pure (v' := .ro 6 (x0.Listf.map TRule.c)) rfl rfl rfl rfl rfl ?_
  refine GX.pure (v' := .int .i64 (x0.Listf.length : Int)) rfl rfl rfl rfl (len_map _ _) ?_
  refine GX.pure (v' := .bool (decide ((i4 : Int) < (x0.Listf.length : Int)))) rfl rfl rfl rfl rfl ?_
  refine GX.done ?_
  rcases bool_two (decide ((i4 : Int) < (x0.Listf.length : Int))) with hb5 | hb5
  · rw [hb5]
    rw [drop_end hb5, F17_crossroadslaw08_plain_l1] at hL_4
    refine WK.condF rfl ?_
    refine WK.exit ?_
    refine QF.exit (hout_4 _ ?_)
    subst hL_4
    try dsimp only [cond_true, cond_false] at hR
    refine WK.seq ?_
    refine WK.regx mixed ?_
    refine GX.pure (v' := .ptr 0 0) rfl rfl rfl rfl rfl ?_
    refine GX.pure (v' := .int .i64 x0.Seq) rfl rfl rfl rfl rfl ?_
    refine GX.pure (v' := .ptr 0 1) rfl rfl rfl rfl rfl ?_
    refine GX.pure (v' := .bool x0.Permit) rfl rfl rfl rfl rfl ?_
    refine GX.pure (v' := .own 2 6 0 l3.length) rfl rfl rfl rfl rfl ?_
    refine GX.pure (v' := .ptr 0 3) rfl rfl rfl rfl rfl ?_
    refine GX.pure (v' := .int .i64 x0.MKind) rfl rfl rfl rfl rfl ?_
    refine GX.pure (v' := .ptr 0 4) rfl rfl rfl rfl rfl ?_
    refine GX.pure (v' := .int .i64 x0.MLow) rfl rfl rfl rfl rfl ?_
    refine GX.pure (v' := .ptr 0 5) rfl rfl rfl rfl rfl ?_
    refine GX.pure (v' := .int .i64 x0.MHigh) rfl rfl rfl rfl rfl ?_
    refine GX.pure (v' := .ptr 0 6) rfl rfl rfl rfl rfl ?_
    refine GX.pure (v' := .ro 1 (x0.MTags.map c_u32)) rfl rfl rfl rfl rfl ?_
    refine GX.pure (v' := .ptr 0 7) rfl rfl rfl rfl rfl ?_
    refine GX.pure (v' := .int .i64 x0.SCost) rfl rfl rfl rfl rfl ?_
    refine GX.pure (v' := .ptr 0 8) rfl rfl rfl rfl rfl ?_
    refine GX.pure (v' := .int .i64 x0.SPlus) rfl rfl rfl rfl rfl ?_
    refine GX.pure (v' := .ptr 0 9) rfl rfl rfl rfl rfl ?_
    refine GX.pure (v' := .int .i64 x0.SKind) rfl rfl rfl rfl rfl ?_
    refine GX.pure (v' := .ptr 0 10) rfl rfl rfl rfl rfl ?_
    refine GX.pure (v' := .bool x0.SetTag) rfl rfl rfl rfl rfl ?_
    refine GX.pure (v' := .ptr 0 11) rfl rfl rfl rfl rfl ?_
    refine GX.pure (v' := .int .u32 x0.STag) rfl rfl rfl rfl rfl ?_
    refine GX.pure (v' := .agg [.int .i64 x0.Seq, .bool x0.Permit, .own 2 6 0 l3.length, .int .i64 x0.MKind, .int .i64 x0.MLow, .int .i64 x0.MHigh, .ro 1 (x0.MTags.map c_u32), .int .i64 x0.SCost, .int .i64 x0.SPlus, .int .i64 x0.SKind, .bool x0.SetTag, .int .u32 x0.STag]) rfl rfl rfl rfl rfl ?_
    refine GX.step0 (heap' := [(0, .box (TClause.c x0)), (1, .box [.int .i64 x0.Seq, .bool x0.Permit, .own 2 6 0 l3.length, .int .i64 x0.MKind, .int .i64 x0.MLow, .int .i64 x0.MHigh, .ro 1 (x0.MTags.map c_u32), .int .i64 x0.SCost, .int .i64 x0.SPlus, .int .i64 x0.SKind, .bool x0.SetTag, .int .u32 x0.STag]), (2, .row 6 74 (l3.map TRule.c))]) (next' := 3) rfl rfl rfl rfl rfl ?_
    refine GX.done ?_
    refine WK.ret ?_
    subst hR
    exact RetQ.fr [2] (.inr rfl) rfl rfl (viewGo_cons (viewP_agg (viewGo_cons rfl (viewGo_cons rfl (viewGo_cons (view_rowT rfl rfl) (viewGo_cons rfl (viewGo_cons rfl (viewGo_cons rfl (viewGo_cons rfl (viewGo_cons rfl (viewGo_cons rfl (viewGo_cons rfl (viewGo_cons rfl (viewGo_cons rfl viewGo_nil))))))))))))) viewGo_nil) rfl
  · rw [hb5]
    obtain ⟨x4, hx4, hd4, hlt4⟩ := drop_more hb5
    rw [hd4, F17_crossroadslaw08_plain_l1] at hL_4
    refine WK.condT rfl ?_
    refine WK.skip ?_
    refine WK.seq ?_
    refine WK.blockK (fun _ hK6 => ?_)
    refine WK.regx mixed ?_
    refine GX.pure (v' := .own 2 6 0 l3.length) rfl rfl rfl rfl rfl ?_
    refine GX.pure (v' := .ptr 0 2) rfl rfl rfl rfl rfl ?_
    refine GX.pure (v' := .ro 6 (x0.Listf.map TRule.c)) rfl rfl rfl rfl rfl ?_
    refine GX.pure (v' := .int .i64 (i4 : Int)) rfl rfl rfl rfl rfl ?_
    refine GX.idxT (c := TRule.c) (x := x4) rfl rfl rfl (Int.natCast_nonneg _) hx4 ?_
    refine GX.pure (v' := .agg (TRule.c x4)) rfl rfl rfl rfl rfl ?_
    generalize hc19 : F37_crossroadslaw08_rule x4 = c19 at hL_4
    try dsimp only at hL_4
    refine GX.callp (r := .agg [.int .i64 c19.Seq, .bool c19.Permit, .int .u32 c19.P.A, .int .i64 c19.P.N, .int .i64 c19.Ge, .int .i64 c19.Le]) rfl rfl rfl (f37_ok x4 _ hc19) rfl rfl ?_
    refine GX.step (v' := .own 3 6 0 (([c19] : List TRule)).length) (heap' := [(0, .box (TClause.c x0)), (1, .box [.int .i64 0, .bool false, .nils, .int .i64 0, .int .i64 0, .int .i64 0, .nils, .int .i64 0, .int .i64 0, .int .i64 0, .bool false, .int .u32 0]), (2, .row 6 74 (l3.map TRule.c)), (3, .row 6 74 (([c19] : List TRule).map TRule.c))]) (next' := 4) rfl rfl rfl rfl rfl rfl rfl ?_
    refine GX.appT (c := TRule.c) (L := l3) (X := ([c19] : List TRule)) (heap' := [(0, .box (TClause.c x0)), (1, .box [.int .i64 0, .bool false, .nils, .int .i64 0, .int .i64 0, .int .i64 0, .nils, .int .i64 0, .int .i64 0, .int .i64 0, .bool false, .int .u32 0]), (3, .row 6 74 (([c19] : List TRule).map TRule.c)), (4, .row 6 74 ((l3 ++ ([c19] : List TRule)).map TRule.c))]) (next' := 5) rfl rfl rfl rfl (elems_own rfl) (by first | omega | assumption | ((try simp only [List.length_append, List.length_cons, List.length_nil, List.length_map, decide_eq_true_eq, decide_eq_false_iff_not] at *) <;> omega) | exact hp0 _ (List.mem_of_getElem? (by assumption)) | exact hp1 _ (List.mem_of_getElem? (by assumption)) | exact hp2 _ (List.mem_of_getElem? (by assumption)) | exact hp3 _ (List.mem_of_getElem? (by assumption)) | exact hp4 _ (List.mem_of_getElem? (by assumption)) | exact hp5 _ (List.mem_of_getElem? (by assumption)) | exact small_len (by assumption) (by assumption) | exact small_rules (by assumption) (by assumption) | exact small_rules (by assumption) (by assumption) _ (List.mem_of_getElem? (by assumption)) | (have hszf := small_len (by assumption) (by assumption); (try simp only [List.length_append, List.length_cons, List.length_nil, List.length_map] at *) <;> omega)) (by first | omega | assumption | ((try simp only [List.length_append, List.length_cons, List.length_nil, List.length_map, decide_eq_true_eq, decide_eq_false_iff_not] at *) <;> omega) | exact hp0 _ (List.mem_of_getElem? (by assumption)) | exact hp1 _ (List.mem_of_getElem? (by assumption)) | exact hp2 _ (List.mem_of_getElem? (by assumption)) | exact hp3 _ (List.mem_of_getElem? (by assumption)) | exact hp4 _ (List.mem_of_getElem? (by assumption)) | exact hp5 _ (List.mem_of_getElem? (by assumption)) | exact small_len (by assumption) (by assumption) | exact small_rules (by assumption) (by assumption) | exact small_rules (by assumption) (by assumption) _ (List.mem_of_getElem? (by assumption)) | (have hszf := small_len (by assumption) (by assumption); (try simp only [List.length_append, List.length_cons, List.length_nil, List.length_map] at *) <;> omega)) rfl rfl rfl rfl ?_
    refine GX.pure (v' := .own 4 6 0 (l3 ++ ([c19] : List TRule)).length) rfl rfl rfl rfl rfl ?_
    refine GX.done ?_
    refine WK.nil (QF.normal (hK6 _ ?_))
    refine WK.regx mixed ?_
    refine GX.pure (v' := .int .i64 (i4 : Int)) rfl rfl rfl rfl rfl ?_
    refine GX.pure (v' := .int .i64 ((i4 + 1 : Nat) : Int)) rfl rfl rfl rfl (congrArg (PVal.int .i64) (wrap_up hlt4 hlen_4)) ?_
    refine GX.pure (v' := .int .i64 ((i4 + 1 : Nat) : Int)) rfl rfl rfl rfl rfl ?_
    refine GX.done ?_
    refine WK.nil (QF.normal ?_)
    exact hagain_4 _ (x0.Listf.length - (i4 + 1)) ⟨[(1, .ptr 0 0), (2, .ptr 1 0), (3, .own 2 6 0 (l3 ++ ([c19] : List TRule)).length), (4, .int .i64 ((i4 + 1) : Int))], [(0, .box (TClause.c x0)), (1, .box [.int .i64 0, .bool false, .nils, .int .i64 0, .int .i64 0, .int .i64 0, .nils, .int .i64 0, .int .i64 0, .int .i64 0, .bool false, .int .u32 0]), (2, .row 6 74 ((l3 ++ ([c19] : List TRule)).map TRule.c))], 3⟩ (by first | omega | ((try simp only [List.length_append, List.length_cons, List.length_nil] at *) <;> omega) | (have hlf := may03_len (by assumption) (by assumption); omega)) (Conv.keep [0, 1, 4] [] [1, 2, 3, 4] rfl rfl (viewE_cons rfl rfl (viewE_cons rfl rfl (viewE_cons rfl rfl (viewE_cons rfl rfl viewE_nil)))) rfl rfl) ⟨i4 + 1, (l3 ++ ([c19] : List TRule)), (by first | omega | ((try simp only [List.length_append, List.length_cons, List.length_nil] at *) <;> omega) | (have hlf := may03_len (by assumption) (by assumption); omega)), rfl, (by first | omega | ((try simp only [List.length_append, List.length_cons, List.length_nil] at *) <;> omega) | (have hlf := may03_len (by assumption) (by assumption); omega)), hL_4, rfl⟩

theorem f9_ok (m0 : List TClause) (hp0 : m0.length ≤ 1048576) (hp1 : ∀ x ∈ m0, x.Listf.length ≤ 1048576) (R : (List TClause)) (hR : F9_crossroadslaw08_rows m0 = R) : FnOk Try.prog 9 [.ro 12 (m0.map TClause.c)] [] 0 (.ro 12 (R.map TClause.c)) [] 0 := by
  refine FnOk.wk i9 rfl rfl ?_
  unfold F9_crossroadslaw08_rows at hR
  change WK _ _ _ [ac9] _ ⟨[(0, .ro 12 (m0.map TClause.c))], [], 0⟩
  unfold ac9
  refine WK.seq ?_
  refine WK.regx mixed ?_
  refine GX.pure (v' := .nils) rfl rfl rfl rfl rfl ?_
  refine GX.done ?_
  refine WK.seq ?_
  refine WK.regx mixed ?_
  refine GX.step (v' := .own 0 12 0 (([] : List TClause)).length) (heap' := [(0, .row 12 47 (([] : List TClause).map TClause.c))]) (next' := 1) rfl rfl rfl rfl rfl rfl rfl ?_
  refine GX.pure (v' := .own 0 12 0 (([] : List TClause)).length) rfl rfl rfl rfl rfl ?_
  refine GX.done ?_
  refine WK.seq ?_
  refine WK.seq ?_
  refine WK.regx mixed ?_
  refine GX.pure (v' := .int .i64 0) rfl rfl rfl rfl rfl ?_
  refine GX.done ?_
  refine WK.len (t := 0) rfl (by simp) (fun hlen_4 => ?_)
  rw [List.length_map] at hlen_4
  generalize hZ_4 : F9_crossroadslaw08_rows_l1 ([] : List TClause) m0 = Z_4 at hR
  refine WK.forK (fun k s => ∃ (i4 : Nat) (out3 : List TClause), i4 ≤ m0.length ∧ k = m0.length - i4 ∧ out3.length ≤ i4 + 0 ∧ F9_crossroadslaw08_rows_l1 out3 (m0.drop i4) = Z_4 ∧ s = ⟨[(0, .ro 12 (m0.map TClause.c)), (3, .own 0 12 0 out3.length), (4, .int .i64 (i4 : Int))], [(0, .row 12 47 (out3.map TClause.c))], 1⟩) m0.length ⟨⟨[(0, .ro 12 (m0.map TClause.c)), (3, .own 0 12 0 ([] : List TClause).length), (4, .int .i64 (0 : Int))], [(0, .row 12 47 (([] : List TClause).map TClause.c))], 1⟩, Conv.keep [0] [] [0, 3, 4] rfl rfl (viewE_cons rfl rfl (viewE_cons rfl rfl (viewE_cons rfl rfl viewE_nil))) rfl rfl, 0, ([] : List TClause), (by first | omega | ((try simp only [List.length_append, List.length_cons, List.length_nil] at *) <;> omega) | (have hlf := may03_len (by assumption) (by assumption); omega)), rfl, (by first | omega | ((try simp only [List.length_append, List.length_cons, List.length_nil] at *) <;> omega) | (have hlf := may03_len (by assumption) (by assumption); omega)), hZ_4, rfl⟩ ?_
  rintro _ _ ⟨i4, out3, hi_4, rfl, hinv4_out3, hL_4, rfl⟩ again_4 out_4 Q_4 hagain_4 hout_4 hQ_4
  refine WK.seq ?_
  refine WK.seq ?_
  refine WK.regx mixed ?_
  refine GX.pure (v' := .int .i64 (i4 : Int)) rfl rfl rfl rfl rfl ?_
  refine GX.pure (v' := .ro 12 (m0.map TClause.c)) rfl rfl rfl rfl rfl ?_
  refine GX.pure (v' := .int .i64 (m0.length : Int)) rfl rfl rfl rfl (len_map _ _) ?_
  refine GX.pure (v' := .bool (decide ((i4 : Int) < (m0.length : Int)))) rfl rfl rfl rfl rfl ?_
  refine GX.done ?_
  rcases bool_two (decide ((i4 : Int) < (m0.length : Int))) with hb5 | hb5
  · rw [hb5]
    rw [drop_end hb5, F9_crossroadslaw08_rows_l1] at hL_4
    refine WK.condF rfl ?_
    refine WK.exit ?_
    refine QF.exit (hout_4 _ ?_)
    subst hL_4
    try dsimp only [cond_true, cond_false] at hR
    refine WK.seq ?_
    refine WK.regx mixed ?_
    refine GX.pure (v' := .own 0 12 0 out3.length) rfl rfl rfl rfl rfl ?_
    refine GX.pure (v' := .own 0 12 0 out3.length) rfl rfl rfl rfl rfl ?_
    refine GX.done ?_
    refine WK.ret ?_
    subst hR
    exact RetQ.fr [0] (.inr rfl) rfl rfl (viewGo_cons (view_rowT rfl rfl) viewGo_nil) rfl
  · rw [hb5]
    obtain ⟨x4, hx4, hd4, hlt4⟩ := drop_more hb5
    rw [hd4, F9_crossroadslaw08_rows_l1] at hL_4
    refine WK.condT rfl ?_
    refine WK.skip ?_
    refine WK.seq ?_
    refine WK.blockK (fun _ hK6 => ?_)
    refine WK.regx mixed ?_
    refine GX.pure (v' := .own 0 12 0 out3.length) rfl rfl rfl rfl rfl ?_
    refine GX.pure (v' := .ro 12 (m0.map TClause.c)) rfl rfl rfl rfl rfl ?_
    refine GX.pure (v' := .int .i64 (i4 : Int)) rfl rfl rfl rfl rfl ?_
    refine GX.idxT (c := TClause.c) (x := x4) rfl rfl rfl (Int.natCast_nonneg _) hx4 ?_
    refine GX.pure (v' := .agg (TClause.c x4)) rfl rfl rfl rfl rfl ?_
    generalize hc17 : F17_crossroadslaw08_plain x4 = c17 at hL_4
    try dsimp only at hL_4
    refine GX.callp (r := .agg [.int .i64 c17.Seq, .bool c17.Permit, .ro 6 (c17.Listf.map TRule.c), .int .i64 c17.MKind, .int .i64 c17.MLow, .int .i64 c17.MHigh, .ro 1 (c17.MTags.map c_u32), .int .i64 c17.SCost, .int .i64 c17.SPlus, .int .i64 c17.SKind, .bool c17.SetTag, .int .u32 c17.STag]) rfl rfl rfl (f17_ok x4 (by first | omega | assumption | ((try simp only [List.length_append, List.length_cons, List.length_nil, List.length_map, decide_eq_true_eq, decide_eq_false_iff_not] at *) <;> omega) | exact hp0 _ (List.mem_of_getElem? (by assumption)) | exact hp1 _ (List.mem_of_getElem? (by assumption)) | exact hp2 _ (List.mem_of_getElem? (by assumption)) | exact hp3 _ (List.mem_of_getElem? (by assumption)) | exact hp4 _ (List.mem_of_getElem? (by assumption)) | exact hp5 _ (List.mem_of_getElem? (by assumption)) | exact small_len (by assumption) (by assumption) | exact small_rules (by assumption) (by assumption) | exact small_rules (by assumption) (by assumption) _ (List.mem_of_getElem? (by assumption)) | (have hszf := small_len (by assumption) (by assumption); (try simp only [List.length_append, List.length_cons, List.length_nil, List.length_map] at *) <;> omega)) _ hc17) rfl rfl ?_
    refine GX.step (v' := .own 1 12 0 (([c17] : List TClause)).length) (heap' := [(0, .row 12 47 (out3.map TClause.c)), (1, .row 12 47 (([c17] : List TClause).map TClause.c))]) (next' := 2) rfl rfl rfl rfl rfl rfl rfl ?_
    refine GX.appT (c := TClause.c) (L := out3) (X := ([c17] : List TClause)) (heap' := [(1, .row 12 47 (([c17] : List TClause).map TClause.c)), (2, .row 12 47 ((out3 ++ ([c17] : List TClause)).map TClause.c))]) (next' := 3) rfl rfl rfl rfl (elems_own rfl) (by first | omega | assumption | ((try simp only [List.length_append, List.length_cons, List.length_nil, List.length_map, decide_eq_true_eq, decide_eq_false_iff_not] at *) <;> omega) | exact hp0 _ (List.mem_of_getElem? (by assumption)) | exact hp1 _ (List.mem_of_getElem? (by assumption)) | exact hp2 _ (List.mem_of_getElem? (by assumption)) | exact hp3 _ (List.mem_of_getElem? (by assumption)) | exact hp4 _ (List.mem_of_getElem? (by assumption)) | exact hp5 _ (List.mem_of_getElem? (by assumption)) | exact small_len (by assumption) (by assumption) | exact small_rules (by assumption) (by assumption) | exact small_rules (by assumption) (by assumption) _ (List.mem_of_getElem? (by assumption)) | (have hszf := small_len (by assumption) (by assumption); (try simp only [List.length_append, List.length_cons, List.length_nil, List.length_map] at *) <;> omega)) (by first | omega | assumption | ((try simp only [List.length_append, List.length_cons, List.length_nil, List.length_map, decide_eq_true_eq, decide_eq_false_iff_not] at *) <;> omega) | exact hp0 _ (List.mem_of_getElem? (by assumption)) | exact hp1 _ (List.mem_of_getElem? (by assumption)) | exact hp2 _ (List.mem_of_getElem? (by assumption)) | exact hp3 _ (List.mem_of_getElem? (by assumption)) | exact hp4 _ (List.mem_of_getElem? (by assumption)) | exact hp5 _ (List.mem_of_getElem? (by assumption)) | exact small_len (by assumption) (by assumption) | exact small_rules (by assumption) (by assumption) | exact small_rules (by assumption) (by assumption) _ (List.mem_of_getElem? (by assumption)) | (have hszf := small_len (by assumption) (by assumption); (try simp only [List.length_append, List.length_cons, List.length_nil, List.length_map] at *) <;> omega)) rfl rfl rfl rfl ?_
    refine GX.pure (v' := .own 2 12 0 (out3 ++ ([c17] : List TClause)).length) rfl rfl rfl rfl rfl ?_
    refine GX.done ?_
    refine WK.nil (QF.normal (hK6 _ ?_))
    refine WK.regx mixed ?_
    refine GX.pure (v' := .int .i64 (i4 : Int)) rfl rfl rfl rfl rfl ?_
    refine GX.pure (v' := .int .i64 ((i4 + 1 : Nat) : Int)) rfl rfl rfl rfl (congrArg (PVal.int .i64) (wrap_up hlt4 hlen_4)) ?_
    refine GX.pure (v' := .int .i64 ((i4 + 1 : Nat) : Int)) rfl rfl rfl rfl rfl ?_
    refine GX.done ?_
    refine WK.nil (QF.normal ?_)
    exact hagain_4 _ (m0.length - (i4 + 1)) ⟨[(0, .ro 12 (m0.map TClause.c)), (3, .own 0 12 0 (out3 ++ ([c17] : List TClause)).length), (4, .int .i64 ((i4 + 1) : Int))], [(0, .row 12 47 ((out3 ++ ([c17] : List TClause)).map TClause.c))], 1⟩ (by first | omega | ((try simp only [List.length_append, List.length_cons, List.length_nil] at *) <;> omega) | (have hlf := may03_len (by assumption) (by assumption); omega)) (Conv.keep [2] [] [0, 3, 4] rfl rfl (viewE_cons rfl rfl (viewE_cons rfl rfl (viewE_cons rfl rfl viewE_nil))) rfl rfl) ⟨i4 + 1, (out3 ++ ([c17] : List TClause)), (by first | omega | ((try simp only [List.length_append, List.length_cons, List.length_nil] at *) <;> omega) | (have hlf := may03_len (by assumption) (by assumption); omega)), rfl, (by first | omega | ((try simp only [List.length_append, List.length_cons, List.length_nil] at *) <;> omega) | (have hlf := may03_len (by assumption) (by assumption); omega)), hL_4, rfl⟩

theorem f10_ok (t0 : TRoute) (R : Bool) (hR : F10_crossroadsref08_MayRoute t0 = R) : FnOk Try.prog 10 [.agg (TRoute.c t0)] [] 0 (.bool R) [] 0 := by
  refine FnOk.wk i10 rfl rfl ?_
  unfold F10_crossroadsref08_MayRoute at hR
  change WK _ _ _ [ac10] _ ⟨[(0, .agg (TRoute.c t0))], [], 0⟩
  unfold ac10
  refine WK.seq ?_
  refine WK.regx mixed ?_
  refine GX.step (v' := .ptr 0 0) (heap' := [(0, .box (TRoute.c t0))]) (next' := 1) rfl rfl rfl rfl rfl rfl rfl ?_
  refine GX.pure (v' := .bool false) rfl rfl rfl rfl rfl ?_
  refine GX.done ?_
  refine WK.seq ?_
  refine WK.regx mixed ?_
  refine GX.pure (v' := .ptr 0 2) rfl rfl rfl rfl rfl ?_
  refine GX.pure (v' := .int .i64 t0.Kind) rfl rfl rfl rfl rfl ?_
  generalize hc5 : F27_crossroadsref08_in t0.Kind 0 9 = c5 at hR
  try dsimp only at hR
  refine GX.callp (r := .bool c5) rfl rfl rfl (f27_ok t0.Kind 0 9 _ hc5) rfl rfl ?_
  refine GX.pure (v' := .bool c5) rfl rfl rfl rfl rfl ?_
  rcases bool_two (c5) with hb1 | hb1
  · rw [hb1]; try simp only [hb1, cond_true, cond_false, Bool.true_and, Bool.false_and, Bool.true_or, Bool.false_or, Bool.not_true, Bool.not_false] at hR
    refine GX.skip rfl rfl ?_
    refine GX.skip rfl rfl ?_
    refine GX.skip rfl rfl ?_
    refine GX.pure (v' := .bool false) rfl rfl rfl rfl rfl ?_
    refine GX.pure (v' := .bool false) rfl rfl rfl rfl rfl ?_
    refine GX.done ?_
    refine WK.ret ?_
    subst hR
    exact RetQ.fr [] (.inr rfl) rfl rfl rfl rfl
  · rw [hb1]; try simp only [hb1, cond_true, cond_false, Bool.true_and, Bool.false_and, Bool.true_or, Bool.false_or, Bool.not_true, Bool.not_false] at hR
    refine GX.pure (v' := .ptr 0 3) rfl rfl rfl rfl rfl ?_
    refine GX.pure (v' := .int .i64 t0.Cost) rfl rfl rfl rfl rfl ?_
    generalize hc9 : F27_crossroadsref08_in t0.Cost 0 16777215 = c9 at hR
    try dsimp only at hR
    refine GX.callp (r := .bool c9) rfl rfl rfl (f27_ok t0.Cost 0 16777215 _ hc9) rfl rfl ?_
    refine GX.pure (v' := .bool c9) rfl rfl rfl rfl rfl ?_
    refine GX.pure (v' := .bool c9) rfl rfl rfl rfl rfl ?_
    refine GX.done ?_
    refine WK.ret ?_
    subst hR
    exact RetQ.fr [] (.inr rfl) rfl rfl rfl rfl

theorem f11_ok (t0 : TRoute) (R : TRoute) (hR : F11_crossroadslaw08_route t0 = R) : FnOk Try.prog 11 [.agg (TRoute.c t0)] [] 0 (.agg (TRoute.c R)) [] 0 := by
  refine FnOk.wk i11 rfl rfl ?_
  unfold F11_crossroadslaw08_route at hR
  change WK _ _ _ [ac11] _ ⟨[(0, .agg (TRoute.c t0))], [], 0⟩
  unfold ac11
  refine WK.seq ?_
  refine WK.regx mixed ?_
  refine GX.step (v' := .ptr 0 0) (heap' := [(0, .box (TRoute.c t0))]) (next' := 1) rfl rfl rfl rfl rfl rfl rfl ?_
  refine GX.step (v' := .ptr 1 0) (heap' := [(0, .box (TRoute.c t0)), (1, .box [.int .u32 0, .int .i64 0, .int .i64 0, .int .i64 0, .int .u32 0])]) (next' := 2) rfl rfl rfl rfl rfl rfl rfl ?_
  refine GX.done ?_
  refine WK.seq ?_
  refine WK.regx mixed ?_
  refine GX.pure (v' := .ptr 0 0) rfl rfl rfl rfl rfl ?_
  refine GX.pure (v' := .agg [.int .u32 t0.P.A, .int .i64 t0.P.N]) rfl rfl rfl rfl rfl ?_
  refine GX.pure (v' := .ptr 0 2) rfl rfl rfl rfl rfl ?_
  refine GX.pure (v' := .int .i64 t0.Kind) rfl rfl rfl rfl rfl ?_
  refine GX.pure (v' := .ptr 0 3) rfl rfl rfl rfl rfl ?_
  refine GX.pure (v' := .int .i64 t0.Cost) rfl rfl rfl rfl rfl ?_
  refine GX.pure (v' := .ptr 0 4) rfl rfl rfl rfl rfl ?_
  refine GX.pure (v' := .int .u32 t0.Tag) rfl rfl rfl rfl rfl ?_
  refine GX.pure (v' := .agg (TRoute.c t0)) rfl rfl rfl rfl rfl ?_
  refine GX.step0 (heap' := [(0, .box (TRoute.c t0)), (1, .box (TRoute.c t0))]) (next' := 2) rfl rfl rfl rfl rfl ?_
  refine GX.done ?_
  refine WK.ret ?_
  subst hR
  exact RetQ.fr [] (.inr rfl) rfl rfl rfl rfl

theorem f20_ok (x0 : TClause) (t1 : TRoute) (R : TRoute) (hR : F20_rmap_Change x0 t1 = R) : FnOk Try.prog 20 [.agg (TClause.c x0), .agg (TRoute.c t1)] [] 0 (.agg (TRoute.c R)) [] 0 := by
  refine FnOk.wk i20 rfl rfl ?_
  unfold F20_rmap_Change at hR
  change WK _ _ _ [ac20] _ ⟨[(0, .agg (TClause.c x0)), (1, .agg (TRoute.c t1))], [], 0⟩
  unfold ac20
  refine WK.seq ?_
  refine WK.regx mixed ?_
  refine GX.step (v' := .ptr 0 0) (heap' := [(0, .box (TClause.c x0))]) (next' := 1) rfl rfl rfl rfl rfl rfl rfl ?_
  refine GX.step (v' := .ptr 1 0) (heap' := [(0, .box (TClause.c x0)), (1, .box (TRoute.c t1))]) (next' := 2) rfl rfl rfl rfl rfl rfl rfl ?_
  refine GX.step (v' := .ptr 2 0) (heap' := [(0, .box (TClause.c x0)), (1, .box (TRoute.c t1)), (2, .box [.int .u32 0, .int .i64 0, .int .i64 0, .int .i64 0, .int .u32 0])]) (next' := 3) rfl rfl rfl rfl rfl rfl rfl ?_
  refine GX.done ?_
  refine WK.seq ?_
  refine WK.seq ?_
  refine WK.regx mixed ?_
  refine GX.pure (v' := .ptr 0 7) rfl rfl rfl rfl rfl ?_
  refine GX.pure (v' := .int .i64 x0.SCost) rfl rfl rfl rfl rfl ?_
  refine GX.pure (v' := .bool (!decide (x0.SCost = (-1)))) rfl rfl rfl rfl rfl ?_
  refine GX.done ?_
  rcases bool_two (decide (x0.SCost = (-1))) with hb1 | hb1
  · rw [hb1]; try simp only [hb1, cond_true, cond_false, Bool.true_and, Bool.false_and, Bool.true_or, Bool.false_or, Bool.not_true, Bool.not_false] at hR
    refine WK.condT rfl ?_
    refine WK.regx mixed ?_
    refine GX.pure (v' := .ptr 0 7) rfl rfl rfl rfl rfl ?_
    refine GX.pure (v' := .int .i64 x0.SCost) rfl rfl rfl rfl rfl ?_
    refine GX.pure (v' := .ptr 1 3) rfl rfl rfl rfl rfl ?_
    refine GX.step0 (heap' := [(0, .box (TClause.c x0)), (1, .box [.int .u32 t1.P.A, .int .i64 t1.P.N, .int .i64 t1.Kind, .int .i64 x0.SCost, .int .u32 t1.Tag]), (2, .box [.int .u32 0, .int .i64 0, .int .i64 0, .int .i64 0, .int .u32 0])]) (next' := 3) rfl rfl rfl rfl rfl ?_
    refine GX.done ?_
    refine WK.seq ?_
    refine WK.seq ?_
    refine WK.regx mixed ?_
    refine GX.pure (v' := .ptr 0 9) rfl rfl rfl rfl rfl ?_
    refine GX.pure (v' := .int .i64 x0.SKind) rfl rfl rfl rfl rfl ?_
    refine GX.pure (v' := .bool (!decide (x0.SKind = (-1)))) rfl rfl rfl rfl rfl ?_
    refine GX.done ?_
    rcases bool_two (decide (x0.SKind = (-1))) with hb2 | hb2
    · rw [hb2]; try simp only [hb2, cond_true, cond_false, Bool.true_and, Bool.false_and, Bool.true_or, Bool.false_or, Bool.not_true, Bool.not_false] at hR
      refine WK.condT rfl ?_
      refine WK.regx mixed ?_
      refine GX.pure (v' := .ptr 0 9) rfl rfl rfl rfl rfl ?_
      refine GX.pure (v' := .int .i64 x0.SKind) rfl rfl rfl rfl rfl ?_
      refine GX.pure (v' := .ptr 1 2) rfl rfl rfl rfl rfl ?_
      refine GX.step0 (heap' := [(0, .box (TClause.c x0)), (1, .box [.int .u32 t1.P.A, .int .i64 t1.P.N, .int .i64 x0.SKind, .int .i64 x0.SCost, .int .u32 t1.Tag]), (2, .box [.int .u32 0, .int .i64 0, .int .i64 0, .int .i64 0, .int .u32 0])]) (next' := 3) rfl rfl rfl rfl rfl ?_
      refine GX.done ?_
      refine WK.seq ?_
      refine WK.seq ?_
      refine WK.regx mixed ?_
      refine GX.pure (v' := .ptr 0 10) rfl rfl rfl rfl rfl ?_
      refine GX.pure (v' := .bool x0.SetTag) rfl rfl rfl rfl rfl ?_
      refine GX.done ?_
      rcases bool_two (x0.SetTag) with hb3 | hb3
      · rw [hb3]; try simp only [hb3, cond_true, cond_false, Bool.true_and, Bool.false_and, Bool.true_or, Bool.false_or, Bool.not_true, Bool.not_false] at hR
        refine WK.condF rfl ?_
        refine WK.skip ?_
        refine WK.seq ?_
        refine WK.regx mixed ?_
        refine GX.pure (v' := .ptr 1 3) rfl rfl rfl rfl rfl ?_
        refine GX.pure (v' := .int .i64 x0.SCost) rfl rfl rfl rfl rfl ?_
        refine GX.pure (v' := .ptr 0 8) rfl rfl rfl rfl rfl ?_
        refine GX.pure (v' := .int .i64 x0.SPlus) rfl rfl rfl rfl rfl ?_
        refine GX.pure (v' := .int .i64 (IntKind.i64.wrap (x0.SCost + x0.SPlus))) rfl rfl rfl rfl rfl ?_
        refine GX.pure (v' := .int .i64 (min_ (IntKind.i64.wrap (x0.SCost + x0.SPlus)) 16777215)) rfl rfl rfl rfl rfl ?_
        refine GX.pure (v' := .ptr 1 3) rfl rfl rfl rfl rfl ?_
        refine GX.step0 (heap' := [(0, .box (TClause.c x0)), (1, .box [.int .u32 t1.P.A, .int .i64 t1.P.N, .int .i64 x0.SKind, .int .i64 (min_ (IntKind.i64.wrap (x0.SCost + x0.SPlus)) 16777215), .int .u32 t1.Tag]), (2, .box [.int .u32 0, .int .i64 0, .int .i64 0, .int .i64 0, .int .u32 0])]) (next' := 3) rfl rfl rfl rfl rfl ?_
        refine GX.done ?_
        refine WK.seq ?_
        refine WK.regx mixed ?_
        refine GX.pure (v' := .agg [.int .u32 t1.P.A, .int .i64 t1.P.N, .int .i64 x0.SKind, .int .i64 (min_ (IntKind.i64.wrap (x0.SCost + x0.SPlus)) 16777215), .int .u32 t1.Tag]) rfl rfl rfl rfl rfl ?_
        refine GX.step0 (heap' := [(0, .box (TClause.c x0)), (1, .box [.int .u32 t1.P.A, .int .i64 t1.P.N, .int .i64 x0.SKind, .int .i64 (min_ (IntKind.i64.wrap (x0.SCost + x0.SPlus)) 16777215), .int .u32 t1.Tag]), (2, .box [.int .u32 t1.P.A, .int .i64 t1.P.N, .int .i64 x0.SKind, .int .i64 (min_ (IntKind.i64.wrap (x0.SCost + x0.SPlus)) 16777215), .int .u32 t1.Tag])]) (next' := 3) rfl rfl rfl rfl rfl ?_
        refine GX.done ?_
        refine WK.ret ?_
        subst hR
        exact RetQ.fr [] (.inr rfl) rfl rfl rfl rfl
      · rw [hb3]; try simp only [hb3, cond_true, cond_false, Bool.true_and, Bool.false_and, Bool.true_or, Bool.false_or, Bool.not_true, Bool.not_false] at hR
        refine WK.condT rfl ?_
        refine WK.regx mixed ?_
        refine GX.pure (v' := .ptr 0 11) rfl rfl rfl rfl rfl ?_
        refine GX.pure (v' := .int .u32 x0.STag) rfl rfl rfl rfl rfl ?_
        refine GX.pure (v' := .ptr 1 4) rfl rfl rfl rfl rfl ?_
        refine GX.step0 (heap' := [(0, .box (TClause.c x0)), (1, .box [.int .u32 t1.P.A, .int .i64 t1.P.N, .int .i64 x0.SKind, .int .i64 x0.SCost, .int .u32 x0.STag]), (2, .box [.int .u32 0, .int .i64 0, .int .i64 0, .int .i64 0, .int .u32 0])]) (next' := 3) rfl rfl rfl rfl rfl ?_
        refine GX.done ?_
        refine WK.seq ?_
        refine WK.regx mixed ?_
        refine GX.pure (v' := .ptr 1 3) rfl rfl rfl rfl rfl ?_
        refine GX.pure (v' := .int .i64 x0.SCost) rfl rfl rfl rfl rfl ?_
        refine GX.pure (v' := .ptr 0 8) rfl rfl rfl rfl rfl ?_
        refine GX.pure (v' := .int .i64 x0.SPlus) rfl rfl rfl rfl rfl ?_
        refine GX.pure (v' := .int .i64 (IntKind.i64.wrap (x0.SCost + x0.SPlus))) rfl rfl rfl rfl rfl ?_
        refine GX.pure (v' := .int .i64 (min_ (IntKind.i64.wrap (x0.SCost + x0.SPlus)) 16777215)) rfl rfl rfl rfl rfl ?_
        refine GX.pure (v' := .ptr 1 3) rfl rfl rfl rfl rfl ?_
        refine GX.step0 (heap' := [(0, .box (TClause.c x0)), (1, .box [.int .u32 t1.P.A, .int .i64 t1.P.N, .int .i64 x0.SKind, .int .i64 (min_ (IntKind.i64.wrap (x0.SCost + x0.SPlus)) 16777215), .int .u32 x0.STag]), (2, .box [.int .u32 0, .int .i64 0, .int .i64 0, .int .i64 0, .int .u32 0])]) (next' := 3) rfl rfl rfl rfl rfl ?_
        refine GX.done ?_
        refine WK.seq ?_
        refine WK.regx mixed ?_
        refine GX.pure (v' := .agg [.int .u32 t1.P.A, .int .i64 t1.P.N, .int .i64 x0.SKind, .int .i64 (min_ (IntKind.i64.wrap (x0.SCost + x0.SPlus)) 16777215), .int .u32 x0.STag]) rfl rfl rfl rfl rfl ?_
        refine GX.step0 (heap' := [(0, .box (TClause.c x0)), (1, .box [.int .u32 t1.P.A, .int .i64 t1.P.N, .int .i64 x0.SKind, .int .i64 (min_ (IntKind.i64.wrap (x0.SCost + x0.SPlus)) 16777215), .int .u32 x0.STag]), (2, .box [.int .u32 t1.P.A, .int .i64 t1.P.N, .int .i64 x0.SKind, .int .i64 (min_ (IntKind.i64.wrap (x0.SCost + x0.SPlus)) 16777215), .int .u32 x0.STag])]) (next' := 3) rfl rfl rfl rfl rfl ?_
        refine GX.done ?_
        refine WK.ret ?_
        subst hR
        exact RetQ.fr [] (.inr rfl) rfl rfl rfl rfl
    · rw [hb2]; try simp only [hb2, cond_true, cond_false, Bool.true_and, Bool.false_and, Bool.true_or, Bool.false_or, Bool.not_true, Bool.not_false] at hR
      refine WK.condF rfl ?_
      refine WK.skip ?_
      refine WK.seq ?_
      refine WK.seq ?_
      refine WK.regx mixed ?_
      refine GX.pure (v' := .ptr 0 10) rfl rfl rfl rfl rfl ?_
      refine GX.pure (v' := .bool x0.SetTag) rfl rfl rfl rfl rfl ?_
      refine GX.done ?_
      rcases bool_two (x0.SetTag) with hb4 | hb4
      · rw [hb4]; try simp only [hb4, cond_true, cond_false, Bool.true_and, Bool.false_and, Bool.true_or, Bool.false_or, Bool.not_true, Bool.not_false] at hR
        refine WK.condF rfl ?_
        refine WK.skip ?_
        refine WK.seq ?_
        refine WK.regx mixed ?_
        refine GX.pure (v' := .ptr 1 3) rfl rfl rfl rfl rfl ?_
        refine GX.pure (v' := .int .i64 x0.SCost) rfl rfl rfl rfl rfl ?_
        refine GX.pure (v' := .ptr 0 8) rfl rfl rfl rfl rfl ?_
        refine GX.pure (v' := .int .i64 x0.SPlus) rfl rfl rfl rfl rfl ?_
        refine GX.pure (v' := .int .i64 (IntKind.i64.wrap (x0.SCost + x0.SPlus))) rfl rfl rfl rfl rfl ?_
        refine GX.pure (v' := .int .i64 (min_ (IntKind.i64.wrap (x0.SCost + x0.SPlus)) 16777215)) rfl rfl rfl rfl rfl ?_
        refine GX.pure (v' := .ptr 1 3) rfl rfl rfl rfl rfl ?_
        refine GX.step0 (heap' := [(0, .box (TClause.c x0)), (1, .box [.int .u32 t1.P.A, .int .i64 t1.P.N, .int .i64 t1.Kind, .int .i64 (min_ (IntKind.i64.wrap (x0.SCost + x0.SPlus)) 16777215), .int .u32 t1.Tag]), (2, .box [.int .u32 0, .int .i64 0, .int .i64 0, .int .i64 0, .int .u32 0])]) (next' := 3) rfl rfl rfl rfl rfl ?_
        refine GX.done ?_
        refine WK.seq ?_
        refine WK.regx mixed ?_
        refine GX.pure (v' := .agg [.int .u32 t1.P.A, .int .i64 t1.P.N, .int .i64 t1.Kind, .int .i64 (min_ (IntKind.i64.wrap (x0.SCost + x0.SPlus)) 16777215), .int .u32 t1.Tag]) rfl rfl rfl rfl rfl ?_
        refine GX.step0 (heap' := [(0, .box (TClause.c x0)), (1, .box [.int .u32 t1.P.A, .int .i64 t1.P.N, .int .i64 t1.Kind, .int .i64 (min_ (IntKind.i64.wrap (x0.SCost + x0.SPlus)) 16777215), .int .u32 t1.Tag]), (2, .box [.int .u32 t1.P.A, .int .i64 t1.P.N, .int .i64 t1.Kind, .int .i64 (min_ (IntKind.i64.wrap (x0.SCost + x0.SPlus)) 16777215), .int .u32 t1.Tag])]) (next' := 3) rfl rfl rfl rfl rfl ?_
        refine GX.done ?_
        refine WK.ret ?_
        subst hR
        exact RetQ.fr [] (.inr rfl) rfl rfl rfl rfl
      · rw [hb4]; try simp only [hb4, cond_true, cond_false, Bool.true_and, Bool.false_and, Bool.true_or, Bool.false_or, Bool.not_true, Bool.not_false] at hR
        refine WK.condT rfl ?_
        refine WK.regx mixed ?_
        refine GX.pure (v' := .ptr 0 11) rfl rfl rfl rfl rfl ?_
        refine GX.pure (v' := .int .u32 x0.STag) rfl rfl rfl rfl rfl ?_
        refine GX.pure (v' := .ptr 1 4) rfl rfl rfl rfl rfl ?_
        refine GX.step0 (heap' := [(0, .box (TClause.c x0)), (1, .box [.int .u32 t1.P.A, .int .i64 t1.P.N, .int .i64 t1.Kind, .int .i64 x0.SCost, .int .u32 x0.STag]), (2, .box [.int .u32 0, .int .i64 0, .int .i64 0, .int .i64 0, .int .u32 0])]) (next' := 3) rfl rfl rfl rfl rfl ?_
        refine GX.done ?_
        refine WK.seq ?_
        refine WK.regx mixed ?_
        refine GX.pure (v' := .ptr 1 3) rfl rfl rfl rfl rfl ?_
        refine GX.pure (v' := .int .i64 x0.SCost) rfl rfl rfl rfl rfl ?_
        refine GX.pure (v' := .ptr 0 8) rfl rfl rfl rfl rfl ?_
        refine GX.pure (v' := .int .i64 x0.SPlus) rfl rfl rfl rfl rfl ?_
        refine GX.pure (v' := .int .i64 (IntKind.i64.wrap (x0.SCost + x0.SPlus))) rfl rfl rfl rfl rfl ?_
        refine GX.pure (v' := .int .i64 (min_ (IntKind.i64.wrap (x0.SCost + x0.SPlus)) 16777215)) rfl rfl rfl rfl rfl ?_
        refine GX.pure (v' := .ptr 1 3) rfl rfl rfl rfl rfl ?_
        refine GX.step0 (heap' := [(0, .box (TClause.c x0)), (1, .box [.int .u32 t1.P.A, .int .i64 t1.P.N, .int .i64 t1.Kind, .int .i64 (min_ (IntKind.i64.wrap (x0.SCost + x0.SPlus)) 16777215), .int .u32 x0.STag]), (2, .box [.int .u32 0, .int .i64 0, .int .i64 0, .int .i64 0, .int .u32 0])]) (next' := 3) rfl rfl rfl rfl rfl ?_
        refine GX.done ?_
        refine WK.seq ?_
        refine WK.regx mixed ?_
        refine GX.pure (v' := .agg [.int .u32 t1.P.A, .int .i64 t1.P.N, .int .i64 t1.Kind, .int .i64 (min_ (IntKind.i64.wrap (x0.SCost + x0.SPlus)) 16777215), .int .u32 x0.STag]) rfl rfl rfl rfl rfl ?_
        refine GX.step0 (heap' := [(0, .box (TClause.c x0)), (1, .box [.int .u32 t1.P.A, .int .i64 t1.P.N, .int .i64 t1.Kind, .int .i64 (min_ (IntKind.i64.wrap (x0.SCost + x0.SPlus)) 16777215), .int .u32 x0.STag]), (2, .box [.int .u32 t1.P.A, .int .i64 t1.P.N, .int .i64 t1.Kind, .int .i64 (min_ (IntKind.i64.wrap (x0.SCost + x0.SPlus)) 16777215), .int .u32 x0.STag])]) (next' := 3) rfl rfl rfl rfl rfl ?_
        refine GX.done ?_
        refine WK.ret ?_
        subst hR
        exact RetQ.fr [] (.inr rfl) rfl rfl rfl rfl
  · rw [hb1]; try simp only [hb1, cond_true, cond_false, Bool.true_and, Bool.false_and, Bool.true_or, Bool.false_or, Bool.not_true, Bool.not_false] at hR
    refine WK.condF rfl ?_
    refine WK.skip ?_
    refine WK.seq ?_
    refine WK.seq ?_
    refine WK.regx mixed ?_
    refine GX.pure (v' := .ptr 0 9) rfl rfl rfl rfl rfl ?_
    refine GX.pure (v' := .int .i64 x0.SKind) rfl rfl rfl rfl rfl ?_
    refine GX.pure (v' := .bool (!decide (x0.SKind = (-1)))) rfl rfl rfl rfl rfl ?_
    refine GX.done ?_
    rcases bool_two (decide (x0.SKind = (-1))) with hb5 | hb5
    · rw [hb5]; try simp only [hb5, cond_true, cond_false, Bool.true_and, Bool.false_and, Bool.true_or, Bool.false_or, Bool.not_true, Bool.not_false] at hR
      refine WK.condT rfl ?_
      refine WK.regx mixed ?_
      refine GX.pure (v' := .ptr 0 9) rfl rfl rfl rfl rfl ?_
      refine GX.pure (v' := .int .i64 x0.SKind) rfl rfl rfl rfl rfl ?_
      refine GX.pure (v' := .ptr 1 2) rfl rfl rfl rfl rfl ?_
      refine GX.step0 (heap' := [(0, .box (TClause.c x0)), (1, .box [.int .u32 t1.P.A, .int .i64 t1.P.N, .int .i64 x0.SKind, .int .i64 t1.Cost, .int .u32 t1.Tag]), (2, .box [.int .u32 0, .int .i64 0, .int .i64 0, .int .i64 0, .int .u32 0])]) (next' := 3) rfl rfl rfl rfl rfl ?_
      refine GX.done ?_
      refine WK.seq ?_
      refine WK.seq ?_
      refine WK.regx mixed ?_
      refine GX.pure (v' := .ptr 0 10) rfl rfl rfl rfl rfl ?_
      refine GX.pure (v' := .bool x0.SetTag) rfl rfl rfl rfl rfl ?_
      refine GX.done ?_
      rcases bool_two (x0.SetTag) with hb6 | hb6
      · rw [hb6]; try simp only [hb6, cond_true, cond_false, Bool.true_and, Bool.false_and, Bool.true_or, Bool.false_or, Bool.not_true, Bool.not_false] at hR
        refine WK.condF rfl ?_
        refine WK.skip ?_
        refine WK.seq ?_
        refine WK.regx mixed ?_
        refine GX.pure (v' := .ptr 1 3) rfl rfl rfl rfl rfl ?_
        refine GX.pure (v' := .int .i64 t1.Cost) rfl rfl rfl rfl rfl ?_
        refine GX.pure (v' := .ptr 0 8) rfl rfl rfl rfl rfl ?_
        refine GX.pure (v' := .int .i64 x0.SPlus) rfl rfl rfl rfl rfl ?_
        refine GX.pure (v' := .int .i64 (IntKind.i64.wrap (t1.Cost + x0.SPlus))) rfl rfl rfl rfl rfl ?_
        refine GX.pure (v' := .int .i64 (min_ (IntKind.i64.wrap (t1.Cost + x0.SPlus)) 16777215)) rfl rfl rfl rfl rfl ?_
        refine GX.pure (v' := .ptr 1 3) rfl rfl rfl rfl rfl ?_
        refine GX.step0 (heap' := [(0, .box (TClause.c x0)), (1, .box [.int .u32 t1.P.A, .int .i64 t1.P.N, .int .i64 x0.SKind, .int .i64 (min_ (IntKind.i64.wrap (t1.Cost + x0.SPlus)) 16777215), .int .u32 t1.Tag]), (2, .box [.int .u32 0, .int .i64 0, .int .i64 0, .int .i64 0, .int .u32 0])]) (next' := 3) rfl rfl rfl rfl rfl ?_
        refine GX.done ?_
        refine WK.seq ?_
        refine WK.regx mixed ?_
        refine GX.pure (v' := .agg [.int .u32 t1.P.A, .int .i64 t1.P.N, .int .i64 x0.SKind, .int .i64 (min_ (IntKind.i64.wrap (t1.Cost + x0.SPlus)) 16777215), .int .u32 t1.Tag]) rfl rfl rfl rfl rfl ?_
        refine GX.step0 (heap' := [(0, .box (TClause.c x0)), (1, .box [.int .u32 t1.P.A, .int .i64 t1.P.N, .int .i64 x0.SKind, .int .i64 (min_ (IntKind.i64.wrap (t1.Cost + x0.SPlus)) 16777215), .int .u32 t1.Tag]), (2, .box [.int .u32 t1.P.A, .int .i64 t1.P.N, .int .i64 x0.SKind, .int .i64 (min_ (IntKind.i64.wrap (t1.Cost + x0.SPlus)) 16777215), .int .u32 t1.Tag])]) (next' := 3) rfl rfl rfl rfl rfl ?_
        refine GX.done ?_
        refine WK.ret ?_
        subst hR
        exact RetQ.fr [] (.inr rfl) rfl rfl rfl rfl
      · rw [hb6]; try simp only [hb6, cond_true, cond_false, Bool.true_and, Bool.false_and, Bool.true_or, Bool.false_or, Bool.not_true, Bool.not_false] at hR
        refine WK.condT rfl ?_
        refine WK.regx mixed ?_
        refine GX.pure (v' := .ptr 0 11) rfl rfl rfl rfl rfl ?_
        refine GX.pure (v' := .int .u32 x0.STag) rfl rfl rfl rfl rfl ?_
        refine GX.pure (v' := .ptr 1 4) rfl rfl rfl rfl rfl ?_
        refine GX.step0 (heap' := [(0, .box (TClause.c x0)), (1, .box [.int .u32 t1.P.A, .int .i64 t1.P.N, .int .i64 x0.SKind, .int .i64 t1.Cost, .int .u32 x0.STag]), (2, .box [.int .u32 0, .int .i64 0, .int .i64 0, .int .i64 0, .int .u32 0])]) (next' := 3) rfl rfl rfl rfl rfl ?_
        refine GX.done ?_
        refine WK.seq ?_
        refine WK.regx mixed ?_
        refine GX.pure (v' := .ptr 1 3) rfl rfl rfl rfl rfl ?_
        refine GX.pure (v' := .int .i64 t1.Cost) rfl rfl rfl rfl rfl ?_
        refine GX.pure (v' := .ptr 0 8) rfl rfl rfl rfl rfl ?_
        refine GX.pure (v' := .int .i64 x0.SPlus) rfl rfl rfl rfl rfl ?_
        refine GX.pure (v' := .int .i64 (IntKind.i64.wrap (t1.Cost + x0.SPlus))) rfl rfl rfl rfl rfl ?_
        refine GX.pure (v' := .int .i64 (min_ (IntKind.i64.wrap (t1.Cost + x0.SPlus)) 16777215)) rfl rfl rfl rfl rfl ?_
        refine GX.pure (v' := .ptr 1 3) rfl rfl rfl rfl rfl ?_
        refine GX.step0 (heap' := [(0, .box (TClause.c x0)), (1, .box [.int .u32 t1.P.A, .int .i64 t1.P.N, .int .i64 x0.SKind, .int .i64 (min_ (IntKind.i64.wrap (t1.Cost + x0.SPlus)) 16777215), .int .u32 x0.STag]), (2, .box [.int .u32 0, .int .i64 0, .int .i64 0, .int .i64 0, .int .u32 0])]) (next' := 3) rfl rfl rfl rfl rfl ?_
        refine GX.done ?_
        refine WK.seq ?_
        refine WK.regx mixed ?_
        refine GX.pure (v' := .agg [.int .u32 t1.P.A, .int .i64 t1.P.N, .int .i64 x0.SKind, .int .i64 (min_ (IntKind.i64.wrap (t1.Cost + x0.SPlus)) 16777215), .int .u32 x0.STag]) rfl rfl rfl rfl rfl ?_
        refine GX.step0 (heap' := [(0, .box (TClause.c x0)), (1, .box [.int .u32 t1.P.A, .int .i64 t1.P.N, .int .i64 x0.SKind, .int .i64 (min_ (IntKind.i64.wrap (t1.Cost + x0.SPlus)) 16777215), .int .u32 x0.STag]), (2, .box [.int .u32 t1.P.A, .int .i64 t1.P.N, .int .i64 x0.SKind, .int .i64 (min_ (IntKind.i64.wrap (t1.Cost + x0.SPlus)) 16777215), .int .u32 x0.STag])]) (next' := 3) rfl rfl rfl rfl rfl ?_
        refine GX.done ?_
        refine WK.ret ?_
        subst hR
        exact RetQ.fr [] (.inr rfl) rfl rfl rfl rfl
    · rw [hb5]; try simp only [hb5, cond_true, cond_false, Bool.true_and, Bool.false_and, Bool.true_or, Bool.false_or, Bool.not_true, Bool.not_false] at hR
      refine WK.condF rfl ?_
      refine WK.skip ?_
      refine WK.seq ?_
      refine WK.seq ?_
      refine WK.regx mixed ?_
      refine GX.pure (v' := .ptr 0 10) rfl rfl rfl rfl rfl ?_
      refine GX.pure (v' := .bool x0.SetTag) rfl rfl rfl rfl rfl ?_
      refine GX.done ?_
      rcases bool_two (x0.SetTag) with hb7 | hb7
      · rw [hb7]; try simp only [hb7, cond_true, cond_false, Bool.true_and, Bool.false_and, Bool.true_or, Bool.false_or, Bool.not_true, Bool.not_false] at hR
        refine WK.condF rfl ?_
        refine WK.skip ?_
        refine WK.seq ?_
        refine WK.regx mixed ?_
        refine GX.pure (v' := .ptr 1 3) rfl rfl rfl rfl rfl ?_
        refine GX.pure (v' := .int .i64 t1.Cost) rfl rfl rfl rfl rfl ?_
        refine GX.pure (v' := .ptr 0 8) rfl rfl rfl rfl rfl ?_
        refine GX.pure (v' := .int .i64 x0.SPlus) rfl rfl rfl rfl rfl ?_
        refine GX.pure (v' := .int .i64 (IntKind.i64.wrap (t1.Cost + x0.SPlus))) rfl rfl rfl rfl rfl ?_
        refine GX.pure (v' := .int .i64 (min_ (IntKind.i64.wrap (t1.Cost + x0.SPlus)) 16777215)) rfl rfl rfl rfl rfl ?_
        refine GX.pure (v' := .ptr 1 3) rfl rfl rfl rfl rfl ?_
        refine GX.step0 (heap' := [(0, .box (TClause.c x0)), (1, .box [.int .u32 t1.P.A, .int .i64 t1.P.N, .int .i64 t1.Kind, .int .i64 (min_ (IntKind.i64.wrap (t1.Cost + x0.SPlus)) 16777215), .int .u32 t1.Tag]), (2, .box [.int .u32 0, .int .i64 0, .int .i64 0, .int .i64 0, .int .u32 0])]) (next' := 3) rfl rfl rfl rfl rfl ?_
        refine GX.done ?_
        refine WK.seq ?_
        refine WK.regx mixed ?_
        refine GX.pure (v' := .agg [.int .u32 t1.P.A, .int .i64 t1.P.N, .int .i64 t1.Kind, .int .i64 (min_ (IntKind.i64.wrap (t1.Cost + x0.SPlus)) 16777215), .int .u32 t1.Tag]) rfl rfl rfl rfl rfl ?_
        refine GX.step0 (heap' := [(0, .box (TClause.c x0)), (1, .box [.int .u32 t1.P.A, .int .i64 t1.P.N, .int .i64 t1.Kind, .int .i64 (min_ (IntKind.i64.wrap (t1.Cost + x0.SPlus)) 16777215), .int .u32 t1.Tag]), (2, .box [.int .u32 t1.P.A, .int .i64 t1.P.N, .int .i64 t1.Kind, .int .i64 (min_ (IntKind.i64.wrap (t1.Cost + x0.SPlus)) 16777215), .int .u32 t1.Tag])]) (next' := 3) rfl rfl rfl rfl rfl ?_
        refine GX.done ?_
        refine WK.ret ?_
        subst hR
        exact RetQ.fr [] (.inr rfl) rfl rfl rfl rfl
      · rw [hb7]; try simp only [hb7, cond_true, cond_false, Bool.true_and, Bool.false_and, Bool.true_or, Bool.false_or, Bool.not_true, Bool.not_false] at hR
        refine WK.condT rfl ?_
        refine WK.regx mixed ?_
        refine GX.pure (v' := .ptr 0 11) rfl rfl rfl rfl rfl ?_
        refine GX.pure (v' := .int .u32 x0.STag) rfl rfl rfl rfl rfl ?_
        refine GX.pure (v' := .ptr 1 4) rfl rfl rfl rfl rfl ?_
        refine GX.step0 (heap' := [(0, .box (TClause.c x0)), (1, .box [.int .u32 t1.P.A, .int .i64 t1.P.N, .int .i64 t1.Kind, .int .i64 t1.Cost, .int .u32 x0.STag]), (2, .box [.int .u32 0, .int .i64 0, .int .i64 0, .int .i64 0, .int .u32 0])]) (next' := 3) rfl rfl rfl rfl rfl ?_
        refine GX.done ?_
        refine WK.seq ?_
        refine WK.regx mixed ?_
        refine GX.pure (v' := .ptr 1 3) rfl rfl rfl rfl rfl ?_
        refine GX.pure (v' := .int .i64 t1.Cost) rfl rfl rfl rfl rfl ?_
        refine GX.pure (v' := .ptr 0 8) rfl rfl rfl rfl rfl ?_
        refine GX.pure (v' := .int .i64 x0.SPlus) rfl rfl rfl rfl rfl ?_
        refine GX.pure (v' := .int .i64 (IntKind.i64.wrap (t1.Cost + x0.SPlus))) rfl rfl rfl rfl rfl ?_
        refine GX.pure (v' := .int .i64 (min_ (IntKind.i64.wrap (t1.Cost + x0.SPlus)) 16777215)) rfl rfl rfl rfl rfl ?_
        refine GX.pure (v' := .ptr 1 3) rfl rfl rfl rfl rfl ?_
        refine GX.step0 (heap' := [(0, .box (TClause.c x0)), (1, .box [.int .u32 t1.P.A, .int .i64 t1.P.N, .int .i64 t1.Kind, .int .i64 (min_ (IntKind.i64.wrap (t1.Cost + x0.SPlus)) 16777215), .int .u32 x0.STag]), (2, .box [.int .u32 0, .int .i64 0, .int .i64 0, .int .i64 0, .int .u32 0])]) (next' := 3) rfl rfl rfl rfl rfl ?_
        refine GX.done ?_
        refine WK.seq ?_
        refine WK.regx mixed ?_
        refine GX.pure (v' := .agg [.int .u32 t1.P.A, .int .i64 t1.P.N, .int .i64 t1.Kind, .int .i64 (min_ (IntKind.i64.wrap (t1.Cost + x0.SPlus)) 16777215), .int .u32 x0.STag]) rfl rfl rfl rfl rfl ?_
        refine GX.step0 (heap' := [(0, .box (TClause.c x0)), (1, .box [.int .u32 t1.P.A, .int .i64 t1.P.N, .int .i64 t1.Kind, .int .i64 (min_ (IntKind.i64.wrap (t1.Cost + x0.SPlus)) 16777215), .int .u32 x0.STag]), (2, .box [.int .u32 t1.P.A, .int .i64 t1.P.N, .int .i64 t1.Kind, .int .i64 (min_ (IntKind.i64.wrap (t1.Cost + x0.SPlus)) 16777215), .int .u32 x0.STag])]) (next' := 3) rfl rfl rfl rfl rfl ?_
        refine GX.done ?_
        refine WK.ret ?_
        subst hR
        exact RetQ.fr [] (.inr rfl) rfl rfl rfl rfl

theorem f28_ok (s0 : List TClause) (gf1 : FuncId) (gf1f gf1c : List PVal) (hf1 : TClause → Bool) (gf1k : PVal.closed.go gf1f = true ∧ PVal.closed.go gf1c = true) (gf1o : ∀ (y0 : TClause) (R : Bool), hf1 y0 = R → FnOk Try.prog gf1 (gf1f ++ [.agg (TClause.c y0)] ++ gf1c) [] 0 (.bool R) [] 0) (R : Int) (hR : F28_slices_IndexFunc s0 hf1 = R) : FnOk Try.prog 28 [.ro 12 (s0.map TClause.c), .fn gf1 gf1f gf1c] [] 0 (.int .i64 R) [] 0 := by
  refine FnOk.wk i28 rfl rfl ?_
  unfold F28_slices_IndexFunc at hR
  change WK _ _ _ [ac28] _ ⟨[(0, .ro 12 (s0.map TClause.c)), (1, .fn gf1 gf1f gf1c)], [], 0⟩
  unfold ac28
  refine WK.seq ?_
  refine WK.regx mixed ?_
  refine GX.pure (v' := .int .i64 0) rfl rfl rfl rfl rfl ?_
  refine GX.done ?_
  refine WK.seq ?_
  refine WK.seq ?_
  refine WK.regx mixed ?_
  refine GX.pure (v' := .ro 12 (s0.map TClause.c)) rfl rfl rfl rfl rfl ?_
  refine GX.pure (v' := .int .i64 (s0.length : Int)) rfl rfl rfl rfl (len_map _ _) ?_
  refine GX.pure (v' := .int .i64 0) rfl rfl rfl rfl rfl ?_
  refine GX.done ?_
  refine WK.len (t := 0) rfl (by simp) (fun hlen_1 => ?_)
  rw [List.length_map] at hlen_1
  generalize hZ_1 : F28_slices_IndexFunc_l1 hf1 0 s0 = Z_1 at hR
  refine WK.forK (fun k s => ∃ (i8 : Nat), i8 ≤ s0.length ∧ k = s0.length - i8 ∧ F28_slices_IndexFunc_l1 hf1 i8 (s0.drop i8) = Z_1 ∧ s = ⟨[(0, .ro 12 (s0.map TClause.c)), (1, .fn gf1 gf1f gf1c), (7, .int .i64 (s0.length : Int)), (8, .int .i64 (i8 : Int))], [], 0⟩) s0.length ⟨⟨[(0, .ro 12 (s0.map TClause.c)), (1, .fn gf1 gf1f gf1c), (7, .int .i64 (s0.length : Int)), (8, .int .i64 (0 : Int))], [], 0⟩, Conv.keep [] [] [0, 1, 7, 8] rfl rfl (viewE_cons rfl rfl (viewE_cons rfl (viewP_fnc gf1k) (viewE_cons rfl rfl (viewE_cons rfl rfl viewE_nil)))) rfl rfl, 0, (by first | omega | ((try simp only [List.length_append, List.length_cons, List.length_nil] at *) <;> omega) | (have hlf := may03_len (by assumption) (by assumption); omega)), rfl, hZ_1, rfl⟩ ?_
  rintro _ _ ⟨i8, hi_1, rfl, hL_1, rfl⟩ again_1 out_1 Q_1 hagain_1 hout_1 hQ_1
  refine WK.seq ?_
  refine WK.regx mixed ?_
  refine GX.pure (v' := .bool (decide ((i8 : Int) < (s0.length : Int)))) rfl rfl rfl rfl rfl ?_
  refine GX.done ?_
  refine WK.seq ?_
  rcases bool_two (decide ((i8 : Int) < (s0.length : Int))) with hb2 | hb2
  · rw [hb2]
    rw [drop_end hb2, F28_slices_IndexFunc_l1] at hL_1
    refine WK.condF rfl ?_
    refine WK.exit ?_
    refine QF.exit (hout_1 _ ?_)
    subst hL_1
    try dsimp only [cond_true, cond_false] at hR
    refine WK.seq ?_
    refine WK.regx mixed ?_
    refine GX.pure (v' := .int .i64 (-1)) rfl rfl rfl rfl rfl ?_
    refine GX.done ?_
    refine WK.ret ?_
    subst hR
    exact RetQ.fr [] (.inr rfl) rfl rfl rfl rfl
  · rw [hb2]
    obtain ⟨x8, hx1, hd1, hlt1⟩ := drop_more hb2
    rw [hd1, F28_slices_IndexFunc_l1] at hL_1
    refine WK.condT rfl ?_
    refine WK.skip ?_
    refine WK.seq ?_
    refine WK.blockK (fun _ hK3 => ?_)
    refine WK.seq ?_
    refine WK.regx mixed ?_
    refine GX.pure (v' := .int .i64 (i8 : Int)) rfl rfl rfl rfl rfl ?_
    refine GX.pure (v' := .int .i64 (i8 : Int)) rfl rfl rfl rfl rfl ?_
    refine GX.done ?_
    refine WK.seq ?_
    refine WK.regx mixed ?_
    refine GX.pure (v' := .fn gf1 gf1f gf1c) rfl rfl rfl rfl rfl ?_
    refine GX.pure (v' := .ro 12 (s0.map TClause.c)) rfl rfl rfl rfl rfl ?_
    refine GX.pure (v' := .int .i64 (i8 : Int)) rfl rfl rfl rfl rfl ?_
    refine GX.idxT (c := TClause.c) (x := x8) rfl rfl rfl (Int.natCast_nonneg _) hx1 ?_
    refine GX.pure (v' := .agg (TClause.c x8)) rfl rfl rfl rfl rfl ?_
    generalize hc16 : hf1 x8 = c16 at hL_1
    try dsimp only at hL_1
    refine GX.callvp (r := .bool c16) rfl rfl rfl (gf1o x8 _ hc16) (closed3 gf1k.1 rfl gf1k.2) rfl ?_
    refine GX.done ?_
    rcases bool_two (c16) with hb4 | hb4
    · rw [hb4]; try simp only [hb4, cond_true, cond_false, Bool.true_and, Bool.false_and, Bool.true_or, Bool.false_or, Bool.not_true, Bool.not_false] at hL_1
      refine WK.condF rfl ?_
      refine WK.skip ?_
      refine WK.nil (QF.normal (hK3 _ ?_))
      refine WK.regx mixed ?_
      refine GX.pure (v' := .int .i64 ((i8 + 1 : Nat) : Int)) rfl rfl rfl rfl (congrArg (PVal.int .i64) (wrap_up hlt1 hlen_1)) ?_
      refine GX.pure (v' := .int .i64 ((i8 + 1 : Nat) : Int)) rfl rfl rfl rfl rfl ?_
      refine GX.done ?_
      refine WK.nil (QF.normal ?_)
      exact hagain_1 _ (s0.length - (i8 + 1)) ⟨[(0, .ro 12 (s0.map TClause.c)), (1, .fn gf1 gf1f gf1c), (7, .int .i64 (s0.length : Int)), (8, .int .i64 ((i8 + 1) : Int))], [], 0⟩ (by first | omega | ((try simp only [List.length_append, List.length_cons, List.length_nil] at *) <;> omega) | (have hlf := may03_len (by assumption) (by assumption); omega)) (Conv.keep [] [] [0, 1, 7, 8] rfl rfl (viewE_cons rfl rfl (viewE_cons rfl (viewP_fnc gf1k) (viewE_cons rfl rfl (viewE_cons rfl rfl viewE_nil)))) rfl rfl) ⟨i8 + 1, (by first | omega | ((try simp only [List.length_append, List.length_cons, List.length_nil] at *) <;> omega) | (have hlf := may03_len (by assumption) (by assumption); omega)), rfl, hL_1, rfl⟩
    · rw [hb4]; try simp only [hb4, cond_true, cond_false, Bool.true_and, Bool.false_and, Bool.true_or, Bool.false_or, Bool.not_true, Bool.not_false] at hL_1
      refine WK.condT rfl ?_
      refine WK.seq ?_
      refine WK.regx mixed ?_
      refine GX.pure (v' := .int .i64 (i8 : Int)) rfl rfl rfl rfl rfl ?_
      refine GX.pure (v' := .int .i64 (i8 : Int)) rfl rfl rfl rfl rfl ?_
      refine GX.done ?_
      refine WK.ret ?_
      refine QF.ret ?_
      refine QF.ret (hQ_1 _ _ ?_)
      subst hL_1
      subst hR
      exact RetQ.fr [] (.inr rfl) rfl rfl rfl rfl

theorem f34_ok (n0 : Int) (low1 : Int) (high2 : Int) (R : Bool) (hR : F34_rmap_isIn n0 low1 high2 = R) : FnOk Try.prog 34 [.int .i64 n0, .int .i64 low1, .int .i64 high2] [] 0 (.bool R) [] 0 := by
  refine FnOk.wk i34 rfl rfl ?_
  unfold F34_rmap_isIn at hR
  change WK _ _ _ [ac34] _ ⟨[(0, .int .i64 n0), (1, .int .i64 low1), (2, .int .i64 high2)], [], 0⟩
  unfold ac34
  refine WK.seq ?_
  refine WK.regx mixed ?_
  refine GX.pure (v' := .bool false) rfl rfl rfl rfl rfl ?_
  refine GX.done ?_
  refine WK.seq ?_
  refine WK.regx mixed ?_
  refine GX.pure (v' := .int .i64 low1) rfl rfl rfl rfl rfl ?_
  refine GX.pure (v' := .int .i64 n0) rfl rfl rfl rfl rfl ?_
  refine GX.pure (v' := .bool (decide (low1 ≤ n0))) rfl rfl rfl rfl rfl ?_
  refine GX.pure (v' := .bool (decide (low1 ≤ n0))) rfl rfl rfl rfl rfl ?_
  rcases bool_two (decide (low1 ≤ n0)) with hb1 | hb1
  · rw [hb1]; try simp only [hb1, cond_true, cond_false, Bool.true_and, Bool.false_and, Bool.true_or, Bool.false_or, Bool.not_true, Bool.not_false] at hR
    refine GX.skip rfl rfl ?_
    refine GX.skip rfl rfl ?_
    refine GX.skip rfl rfl ?_
    refine GX.pure (v' := .bool false) rfl rfl rfl rfl rfl ?_
    refine GX.pure (v' := .bool false) rfl rfl rfl rfl rfl ?_
    refine GX.done ?_
    refine WK.ret ?_
    subst hR
    exact RetQ.fr [] (.inr rfl) rfl rfl rfl rfl
  · rw [hb1]; try simp only [hb1, cond_true, cond_false, Bool.true_and, Bool.false_and, Bool.true_or, Bool.false_or, Bool.not_true, Bool.not_false] at hR
    refine GX.pure (v' := .int .i64 n0) rfl rfl rfl rfl rfl ?_
    refine GX.pure (v' := .int .i64 high2) rfl rfl rfl rfl rfl ?_
    refine GX.pure (v' := .bool (decide (n0 ≤ high2))) rfl rfl rfl rfl rfl ?_
    refine GX.pure (v' := .bool (decide (n0 ≤ high2))) rfl rfl rfl rfl rfl ?_
    refine GX.pure (v' := .bool (decide (n0 ≤ high2))) rfl rfl rfl rfl rfl ?_
    refine GX.done ?_
    refine WK.ret ?_
    subst hR
    exact RetQ.fr [] (.inr rfl) rfl rfl rfl rfl

end Go.Proofs.Ytagiapphmkdnmaa.Abs
