/- The functions walked: each computes its Lean function (printed by this work's own program gen.py). -/
import Derived.Test.YtagiapphmkdnmaaSz
set_option linter.unusedVariables false
set_option linter.unusedSimpArgs false
set_option maxRecDepth 10000
set_option maxHeartbeats 4000000
namespace Go.Proofs.Ytagiapphmkdnmaa.Abs
open Go

theorem f7_ok (m0 : List TClause) (R : Bool) (hR : F7_crossroadslaw08_small m0 = R) : FnOk Try.prog 7 [.ro 12 (m0.map TClause.c)] [] 0 (.bool R) [] 0 := by
  refine FnOk.wk i7 rfl rfl ?_
  unfold F7_crossroadslaw08_small at hR
  change WK _ _ _ [ac7] _ ⟨[(0, .ro 12 (m0.map TClause.c))], [], 0⟩
  unfold ac7
  refine WK.seq ?_
  refine WK.regx mixed ?_
  refine GX.pure (v' := .bool false) rfl rfl rfl rfl rfl ?_
  refine GX.done ?_
  refine WK.seq ?_
  refine WK.seq ?_
  refine WK.regx mixed ?_
  refine GX.pure (v' := .int .i64 0) rfl rfl rfl rfl rfl ?_
  refine GX.done ?_
  refine WK.len (t := 0) rfl (by simp) (fun hlen_1 => ?_)
  rw [List.length_map] at hlen_1
  generalize hZ_1 : F7_crossroadslaw08_small_l1 0 m0 = Z_1 at hR
  refine WK.forK (fun k s => ∃ (i3 : Nat), i3 ≤ m0.length ∧ k = m0.length - i3 ∧ F7_crossroadslaw08_small_l1 i3 (m0.drop i3) = Z_1 ∧ s = ⟨[(0, .ro 12 (m0.map TClause.c)), (3, .int .i64 (i3 : Int))], [], 0⟩) m0.length ⟨⟨[(0, .ro 12 (m0.map TClause.c)), (3, .int .i64 (0 : Int))], [], 0⟩, Conv.keep [] [] [0, 3] rfl rfl (viewE_cons rfl rfl (viewE_cons rfl rfl viewE_nil)) rfl rfl, 0, (by first | omega | ((try simp only [List.length_append, List.length_cons, List.length_nil] at *) <;> omega) | (have hlf := may03_len (by assumption) (by assumption); omega)), rfl, hZ_1, rfl⟩ ?_
  rintro _ _ ⟨i3, hi_1, rfl, hL_1, rfl⟩ again_1 out_1 Q_1 hagain_1 hout_1 hQ_1
  refine WK.seq ?_
  refine WK.seq ?_
  refine WK.regx mixed ?_
  refine GX.pure (v' := .int .i64 (i3 : Int)) rfl rfl rfl rfl rfl ?_
  refine GX.pure (v' := .ro 12 (m0.map TClause.c)) rfl rfl rfl rfl rfl ?_
  refine GX.pure (v' := .int .i64 (m0.length : Int)) rfl rfl rfl rfl (len_map _ _) ?_
  refine GX.pure (v' := .bool (decide ((i3 : Int) < (m0.length : Int)))) rfl rfl rfl rfl rfl ?_
  refine GX.done ?_
  rcases bool_two (decide ((i3 : Int) < (m0.length : Int))) with hb2 | hb2
  · rw [hb2]
    rw [drop_end hb2, F7_crossroadslaw08_small_l1] at hL_1
    refine WK.condF rfl ?_
    refine WK.exit ?_
    refine QF.exit (hout_1 _ ?_)
    subst hL_1
    try dsimp only [cond_true, cond_false] at hR
    refine WK.seq ?_
    refine WK.regx mixed ?_
    refine GX.pure (v' := .bool true) rfl rfl rfl rfl rfl ?_
    refine GX.done ?_
    refine WK.ret ?_
    subst hR
    exact RetQ.fr [] (.inr rfl) rfl rfl rfl rfl
  · rw [hb2]
    obtain ⟨x3, hx1, hd1, hlt1⟩ := drop_more hb2
    rw [hd1, F7_crossroadslaw08_small_l1] at hL_1
    refine WK.condT rfl ?_
    refine WK.skip ?_
    refine WK.seq ?_
    refine WK.blockK (fun _ hK3 => ?_)
    refine WK.seq ?_
    refine WK.regx mixed ?_
    refine GX.pure (v' := .int .i64 (i3 : Int)) rfl rfl rfl rfl rfl ?_
    refine GX.pure (v' := .bool (decide ((i3 : Int) = 20))) rfl rfl rfl rfl rfl ?_
    refine GX.pure (v' := .bool (decide ((i3 : Int) = 20))) rfl rfl rfl rfl rfl ?_
    rcases bool_two (decide ((i3 : Int) = 20)) with hb4 | hb4
    · rw [hb4]; try simp only [hb4, cond_true, cond_false, Bool.true_and, Bool.false_and, Bool.true_or, Bool.false_or, Bool.not_true, Bool.not_false] at hL_1
      refine GX.pure (v' := .ro 12 (m0.map TClause.c)) rfl rfl rfl rfl rfl ?_
      refine GX.pure (v' := .int .i64 (i3 : Int)) rfl rfl rfl rfl rfl ?_
      refine GX.idxT (c := TClause.c) (x := x3) rfl rfl rfl (Int.natCast_nonneg _) hx1 ?_
      refine GX.pure (v' := .rptr [.ro 6 (x3.Listf.map TRule.c), .int .i64 x3.MKind, .int .i64 x3.MLow, .int .i64 x3.MHigh, .ro 1 (x3.MTags.map c_u32), .int .i64 x3.SCost, .int .i64 x3.SPlus, .int .i64 x3.SKind, .bool x3.SetTag, .int .u32 x3.STag]) rfl rfl rfl rfl rfl ?_
      refine GX.pure (v' := .ro 6 (x3.Listf.map TRule.c)) rfl rfl rfl rfl rfl ?_
      refine GX.pure (v' := .int .i64 (x3.Listf.length : Int)) rfl rfl rfl rfl (len_map _ _) ?_
      refine GX.pure (v' := .bool (decide (20 < (x3.Listf.length : Int)))) rfl rfl rfl rfl rfl ?_
      refine GX.pure (v' := .bool (decide (20 < (x3.Listf.length : Int)))) rfl rfl rfl rfl rfl ?_
      refine GX.pure (v' := .bool (decide (20 < (x3.Listf.length : Int)))) rfl rfl rfl rfl rfl ?_
      rcases bool_two (decide (20 < (x3.Listf.length : Int))) with hb5 | hb5
      · rw [hb5]; try simp only [hb5, cond_true, cond_false, Bool.true_and, Bool.false_and, Bool.true_or, Bool.false_or, Bool.not_true, Bool.not_false] at hL_1
        refine GX.pure (v' := .ro 12 (m0.map TClause.c)) rfl rfl rfl rfl rfl ?_
        refine GX.pure (v' := .int .i64 (i3 : Int)) rfl rfl rfl rfl rfl ?_
        refine GX.idxT (c := TClause.c) (x := x3) rfl rfl rfl (Int.natCast_nonneg _) hx1 ?_
        refine GX.pure (v' := .rptr [.ro 1 (x3.MTags.map c_u32), .int .i64 x3.SCost, .int .i64 x3.SPlus, .int .i64 x3.SKind, .bool x3.SetTag, .int .u32 x3.STag]) rfl rfl rfl rfl rfl ?_
        refine GX.pure (v' := .ro 1 (x3.MTags.map c_u32)) rfl rfl rfl rfl rfl ?_
        refine GX.pure (v' := .int .i64 (x3.MTags.length : Int)) rfl rfl rfl rfl (len_map _ _) ?_
        refine GX.pure (v' := .bool (decide (20 < (x3.MTags.length : Int)))) rfl rfl rfl rfl rfl ?_
        refine GX.pure (v' := .bool (decide (20 < (x3.MTags.length : Int)))) rfl rfl rfl rfl rfl ?_
        refine GX.done ?_
        rcases bool_two (decide (20 < (x3.MTags.length : Int))) with hb6 | hb6
        · rw [hb6]; try simp only [hb6, cond_true, cond_false, Bool.true_and, Bool.false_and, Bool.true_or, Bool.false_or, Bool.not_true, Bool.not_false] at hL_1
          refine WK.condF rfl ?_
          refine WK.skip ?_
          refine WK.nil (QF.normal (hK3 _ ?_))
          refine WK.regx mixed ?_
          refine GX.pure (v' := .int .i64 (i3 : Int)) rfl rfl rfl rfl rfl ?_
          refine GX.pure (v' := .int .i64 ((i3 + 1 : Nat) : Int)) rfl rfl rfl rfl (congrArg (PVal.int .i64) (wrap_up hlt1 hlen_1)) ?_
          refine GX.pure (v' := .int .i64 ((i3 + 1 : Nat) : Int)) rfl rfl rfl rfl rfl ?_
          refine GX.done ?_
          refine WK.nil (QF.normal ?_)
          exact hagain_1 _ (m0.length - (i3 + 1)) ⟨[(0, .ro 12 (m0.map TClause.c)), (3, .int .i64 ((i3 + 1) : Int))], [], 0⟩ (by first | omega | ((try simp only [List.length_append, List.length_cons, List.length_nil] at *) <;> omega) | (have hlf := may03_len (by assumption) (by assumption); omega)) (Conv.keep [] [] [0, 3] rfl rfl (viewE_cons rfl rfl (viewE_cons rfl rfl viewE_nil)) rfl rfl) ⟨i3 + 1, (by first | omega | ((try simp only [List.length_append, List.length_cons, List.length_nil] at *) <;> omega) | (have hlf := may03_len (by assumption) (by assumption); omega)), rfl, hL_1, rfl⟩
        · rw [hb6]; try simp only [hb6, cond_true, cond_false, Bool.true_and, Bool.false_and, Bool.true_or, Bool.false_or, Bool.not_true, Bool.not_false] at hL_1
          refine WK.condT rfl ?_
          refine WK.seq ?_
          refine WK.regx mixed ?_
          refine GX.pure (v' := .bool false) rfl rfl rfl rfl rfl ?_
          refine GX.done ?_
          refine WK.ret ?_
          refine QF.ret ?_
          refine QF.ret (hQ_1 _ _ ?_)
          subst hL_1
          subst hR
          exact RetQ.fr [] (.inr rfl) rfl rfl rfl rfl
      · rw [hb5]; try simp only [hb5, cond_true, cond_false, Bool.true_and, Bool.false_and, Bool.true_or, Bool.false_or, Bool.not_true, Bool.not_false] at hL_1
        refine GX.skip rfl rfl ?_
        refine GX.skip rfl rfl ?_
        refine GX.skip rfl rfl ?_
        refine GX.skip rfl rfl ?_
        refine GX.skip rfl rfl ?_
        refine GX.skip rfl rfl ?_
        refine GX.skip rfl rfl ?_
        refine GX.pure (v' := .bool true) rfl rfl rfl rfl rfl ?_
        refine GX.done ?_
        refine WK.condT rfl ?_
        refine WK.seq ?_
        refine WK.regx mixed ?_
        refine GX.pure (v' := .bool false) rfl rfl rfl rfl rfl ?_
        refine GX.done ?_
        refine WK.ret ?_
        refine QF.ret ?_
        refine QF.ret (hQ_1 _ _ ?_)
        subst hL_1
        subst hR
        exact RetQ.fr [] (.inr rfl) rfl rfl rfl rfl
    · rw [hb4]; try simp only [hb4, cond_true, cond_false, Bool.true_and, Bool.false_and, Bool.true_or, Bool.false_or, Bool.not_true, Bool.not_false] at hL_1
      refine GX.skip rfl rfl ?_
      refine GX.skip rfl rfl ?_
      refine GX.skip rfl rfl ?_
      refine GX.skip rfl rfl ?_
      refine GX.skip rfl rfl ?_
      refine GX.skip rfl rfl ?_
      refine GX.skip rfl rfl ?_
      refine GX.pure (v' := .bool true) rfl rfl rfl rfl rfl ?_
      refine GX.pure (v' := .bool true) rfl rfl rfl rfl rfl ?_
      refine GX.skip rfl rfl ?_
      refine GX.skip rfl rfl ?_
      refine GX.skip rfl rfl ?_
      refine GX.skip rfl rfl ?_
      refine GX.skip rfl rfl ?_
      refine GX.skip rfl rfl ?_
      refine GX.skip rfl rfl ?_
      refine GX.pure (v' := .bool true) rfl rfl rfl rfl rfl ?_
      refine GX.done ?_
      refine WK.condT rfl ?_
      refine WK.seq ?_
      refine WK.regx mixed ?_
      refine GX.pure (v' := .bool false) rfl rfl rfl rfl rfl ?_
      refine GX.done ?_
      refine WK.ret ?_
      refine QF.ret ?_
      refine QF.ret (hQ_1 _ _ ?_)
      subst hL_1
      subst hR
      exact RetQ.fr [] (.inr rfl) rfl rfl rfl rfl

theorem f27_ok (n0 : Int) (low1 : Int) (high2 : Int) (R : Bool) (hR : F27_crossroadsref08_in n0 low1 high2 = R) : FnOk Try.prog 27 [.int .i64 n0, .int .i64 low1, .int .i64 high2] [] 0 (.bool R) [] 0 := by
  refine FnOk.wk i27 rfl rfl ?_
  unfold F27_crossroadsref08_in at hR
  change WK _ _ _ [ac27] _ ⟨[(0, .int .i64 n0), (1, .int .i64 low1), (2, .int .i64 high2)], [], 0⟩
  unfold ac27
  refine WK.seq ?_
  refine WK.regx mixed ?_
  refine GX.pure (v' := .bool false) rfl rfl rfl rfl rfl ?_
  refine GX.done ?_
  refine WK.seq ?_
  refine WK.regx mixed ?_
  refine GX.pure (v' := .int .i64 n0) rfl rfl rfl rfl rfl ?_
  refine GX.pure (v' := .int .i64 low1) rfl rfl rfl rfl rfl ?_
  refine GX.pure (v' := .bool (decide (low1 ≤ n0))) rfl rfl rfl rfl rfl ?_
  refine GX.pure (v' := .bool (decide (low1 ≤ n0))) rfl rfl rfl rfl rfl ?_
  rcases bool_two (decide (low1 ≤ n0)) with hb1 | hb1
  · rw [hb1]; try simp only [hb1, cond_true, cond_false, Bool.true_and, Bool.false_and, Bool.true_or, Bool.false_or, Bool.not_true, Bool.not_false] at hR
    refine GX.skip rfl rfl ?_
    refine GX.skip rfl rfl ?_
    refine GX.skip rfl rfl ?_
    refine GX.pure (v' := .bool false) rfl rfl rfl rfl rfl ?_
    refine GX.pure (v' := .bool false) rfl rfl rfl rfl rfl ?_
    refine GX.done ?_
    refine WK.ret ?_
    subst hR
    exact RetQ.fr [] (.inr rfl) rfl rfl rfl rfl
  · rw [hb1]; try simp only [hb1, cond_true, cond_false, Bool.true_and, Bool.false_and, Bool.true_or, Bool.false_or, Bool.not_true, Bool.not_false] at hR
    refine GX.pure (v' := .int .i64 n0) rfl rfl rfl rfl rfl ?_
    refine GX.pure (v' := .int .i64 high2) rfl rfl rfl rfl rfl ?_
    refine GX.pure (v' := .bool (decide (n0 ≤ high2))) rfl rfl rfl rfl rfl ?_
    refine GX.pure (v' := .bool (decide (n0 ≤ high2))) rfl rfl rfl rfl rfl ?_
    refine GX.pure (v' := .bool (decide (n0 ≤ high2))) rfl rfl rfl rfl rfl ?_
    refine GX.done ?_
    refine WK.ret ?_
    subst hR
    exact RetQ.fr [] (.inr rfl) rfl rfl rfl rfl

theorem f60_ok (a0 : Int) (i1 : Int) (R : Int) (hR : F60_crossroadsref03_Bit a0 i1 = R) : FnOk Try.prog 60 [.int .u32 a0, .int .i64 i1] [] 0 (.int .i64 R) [] 0 := by
  refine FnOk.wk i60 rfl rfl ?_
  unfold F60_crossroadsref03_Bit at hR
  change WK _ _ _ [ac60] _ ⟨[(0, .int .u32 a0), (1, .int .i64 i1)], [], 0⟩
  unfold ac60
  refine WK.seq ?_
  refine WK.regx mixed ?_
  refine GX.pure (v' := .int .i64 0) rfl rfl rfl rfl rfl ?_
  refine GX.done ?_
  refine WK.seq ?_
  refine WK.seq ?_
  refine WK.regx mixed ?_
  refine GX.pure (v' := .int .i64 i1) rfl rfl rfl rfl rfl ?_
  refine GX.pure (v' := .bool (decide (i1 < 0))) rfl rfl rfl rfl rfl ?_
  refine GX.pure (v' := .bool (decide (i1 < 0))) rfl rfl rfl rfl rfl ?_
  rcases bool_two (decide (i1 < 0)) with hb1 | hb1
  · rw [hb1]; try simp only [hb1, cond_true, cond_false, Bool.true_and, Bool.false_and, Bool.true_or, Bool.false_or, Bool.not_true, Bool.not_false] at hR
    refine GX.pure (v' := .int .i64 i1) rfl rfl rfl rfl rfl ?_
    refine GX.pure (v' := .bool (decide (31 < i1))) rfl rfl rfl rfl rfl ?_
    refine GX.pure (v' := .bool (decide (31 < i1))) rfl rfl rfl rfl rfl ?_
    refine GX.done ?_
    rcases bool_two (decide (31 < i1)) with hb2 | hb2
    · rw [hb2]; try simp only [hb2, cond_true, cond_false, Bool.true_and, Bool.false_and, Bool.true_or, Bool.false_or, Bool.not_true, Bool.not_false] at hR
      refine WK.condF rfl ?_
      refine WK.skip ?_
      refine WK.seq ?_
      refine WK.regx mixed ?_
      refine GX.pure (v' := .int .u32 a0) rfl rfl rfl rfl rfl ?_
      refine GX.pure (v' := .int .i64 i1) rfl rfl rfl rfl rfl ?_
      refine GX.pure (v' := .int .i64 (IntKind.i64.wrap (31 - i1))) rfl rfl rfl rfl rfl ?_
      refine GX.pure (v' := .int .u64 (IntKind.u64.wrap (IntKind.i64.wrap (31 - i1)))) rfl rfl rfl rfl rfl ?_
      refine GX.shr rfl rfl rfl (by first | exact wrap_u64_nonneg _ | exact wrap_u32_nonneg _ | omega | exact F28_slices_IndexFunc_lt (by assumption) (by assumption) | exact F47_slices_IndexFunc_lt (by assumption) (by assumption) | ((try simp only [decide_eq_true_eq, decide_eq_false_iff_not, Bool.not_eq_true, Bool.not_eq_false] at *); first | omega | (rw [wrap64_of (by omega) (by omega)]; omega) | (unfold min_ max_; (repeat' split) <;> first | omega | (rw [wrap64_of (by omega) (by omega)]; omega)))) ?_
      refine GX.pure (v' := .int .u32 (bit_and .u32 (shr_ .u32 a0 (IntKind.u64.wrap (IntKind.i64.wrap (31 - i1)))) 1)) rfl rfl rfl rfl rfl ?_
      refine GX.pure (v' := .int .i64 (IntKind.i64.wrap (bit_and .u32 (shr_ .u32 a0 (IntKind.u64.wrap (IntKind.i64.wrap (31 - i1)))) 1))) rfl rfl rfl rfl rfl ?_
      refine GX.pure (v' := .int .i64 (IntKind.i64.wrap (bit_and .u32 (shr_ .u32 a0 (IntKind.u64.wrap (IntKind.i64.wrap (31 - i1)))) 1))) rfl rfl rfl rfl rfl ?_
      refine GX.done ?_
      refine WK.ret ?_
      subst hR
      exact RetQ.fr [] (.inr rfl) rfl rfl rfl rfl
    · rw [hb2]; try simp only [hb2, cond_true, cond_false, Bool.true_and, Bool.false_and, Bool.true_or, Bool.false_or, Bool.not_true, Bool.not_false] at hR
      refine WK.condT rfl ?_
      refine WK.seq ?_
      refine WK.regx mixed ?_
      refine GX.pure (v' := .int .i64 0) rfl rfl rfl rfl rfl ?_
      refine GX.done ?_
      refine WK.ret ?_
      subst hR
      exact RetQ.fr [] (.inr rfl) rfl rfl rfl rfl
  · rw [hb1]; try simp only [hb1, cond_true, cond_false, Bool.true_and, Bool.false_and, Bool.true_or, Bool.false_or, Bool.not_true, Bool.not_false] at hR
    refine GX.skip rfl rfl ?_
    refine GX.skip rfl rfl ?_
    refine GX.pure (v' := .bool true) rfl rfl rfl rfl rfl ?_
    refine GX.done ?_
    refine WK.condT rfl ?_
    refine WK.seq ?_
    refine WK.regx mixed ?_
    refine GX.pure (v' := .int .i64 0) rfl rfl rfl rfl rfl ?_
    refine GX.done ?_
    refine WK.ret ?_
    subst hR
    exact RetQ.fr [] (.inr rfl) rfl rfl rfl rfl

theorem f53_ok (p0 : TPrefix) (R : Bool) (hR : F53_crossroadsref03_May p0 = R) : FnOk Try.prog 53 [.agg (TPrefix.c p0)] [] 0 (.bool R) [] 0 := by
  refine FnOk.wk i53 rfl rfl ?_
  unfold F53_crossroadsref03_May at hR
  change WK _ _ _ [ac53] _ ⟨[(0, .agg (TPrefix.c p0))], [], 0⟩
  unfold ac53
  refine WK.seq ?_
  refine WK.regx mixed ?_
  refine GX.step (v' := .ptr 0 0) (heap' := [(0, .box (TPrefix.c p0))]) (next' := 1) rfl rfl rfl rfl rfl rfl rfl ?_
  refine GX.pure (v' := .bool false) rfl rfl rfl rfl rfl ?_
  refine GX.done ?_
  refine WK.seq ?_
  refine WK.seq ?_
  refine WK.regx mixed ?_
  refine GX.pure (v' := .ptr 0 1) rfl rfl rfl rfl rfl ?_
  refine GX.pure (v' := .int .i64 p0.N) rfl rfl rfl rfl rfl ?_
  refine GX.pure (v' := .bool (decide (p0.N < 0))) rfl rfl rfl rfl rfl ?_
  refine GX.pure (v' := .bool (decide (p0.N < 0))) rfl rfl rfl rfl rfl ?_
  rcases bool_two (decide (p0.N < 0)) with hb1 | hb1
  · rw [hb1]; try simp only [hb1, cond_true, cond_false, Bool.true_and, Bool.false_and, Bool.true_or, Bool.false_or, Bool.not_true, Bool.not_false] at hR
    refine GX.pure (v' := .ptr 0 1) rfl rfl rfl rfl rfl ?_
    refine GX.pure (v' := .int .i64 p0.N) rfl rfl rfl rfl rfl ?_
    refine GX.pure (v' := .bool (decide (32 < p0.N))) rfl rfl rfl rfl rfl ?_
    refine GX.pure (v' := .bool (decide (32 < p0.N))) rfl rfl rfl rfl rfl ?_
    refine GX.done ?_
    rcases bool_two (decide (32 < p0.N)) with hb2 | hb2
    · rw [hb2]; try simp only [hb2, cond_true, cond_false, Bool.true_and, Bool.false_and, Bool.true_or, Bool.false_or, Bool.not_true, Bool.not_false] at hR
      refine WK.condF rfl ?_
      refine WK.skip ?_
      refine WK.seq ?_
      refine WK.seq ?_
      refine WK.regx mixed ?_
      refine GX.pure (v' := .ptr 0 1) rfl rfl rfl rfl rfl ?_
      refine GX.pure (v' := .int .i64 p0.N) rfl rfl rfl rfl rfl ?_
      refine GX.pure (v' := .int .i64 p0.N) rfl rfl rfl rfl rfl ?_
      refine GX.done ?_
      generalize hZ_3 : F53_crossroadsref03_May_l1 p0 (fuelUp p0.N 32) p0.N = Z_3 at hR
      refine WK.forK (fun k s => ∃ (i3 : Int), fuelUp i3 32 ≤ k ∧ F53_crossroadsref03_May_l1 p0 k i3 = Z_3 ∧ s = ⟨[(1, .ptr 0 0), (3, .int .i64 i3)], [(0, .box (TPrefix.c p0))], 1⟩) (fuelUp p0.N 32) ⟨⟨[(1, .ptr 0 0), (3, .int .i64 p0.N)], [(0, .box (TPrefix.c p0))], 1⟩, Conv.keep [0] [] [1, 3] rfl rfl (viewE_cons rfl rfl (viewE_cons rfl rfl viewE_nil)) rfl rfl, p0.N, Nat.le_refl _, hZ_3, rfl⟩ ?_
      rintro k3 _ ⟨i3, hfu3, hL_3, rfl⟩ again_3 out_3 Q_3 hagain_3 hout_3 hQ_3
      refine WK.seq ?_
      refine WK.seq ?_
      refine WK.regx mixed ?_
      refine GX.pure (v' := .int .i64 i3) rfl rfl rfl rfl rfl ?_
      refine GX.pure (v' := .bool (decide (i3 < 32))) rfl rfl rfl rfl rfl ?_
      refine GX.done ?_
      rcases bool_two (decide (i3 < 32)) with hb4 | hb4
      · rw [hb4]
        unfold F53_crossroadsref03_May_l1 at hL_3; rw [hb4, cond_false] at hL_3
        refine WK.condF rfl ?_
        refine WK.exit ?_
        refine QF.exit (hout_3 _ ?_)
        subst hL_3
        try dsimp only [cond_true, cond_false] at hR
        refine WK.seq ?_
        refine WK.regx mixed ?_
        refine GX.pure (v' := .bool true) rfl rfl rfl rfl rfl ?_
        refine GX.done ?_
        refine WK.ret ?_
        subst hR
        exact RetQ.fr [] (.inr rfl) rfl rfl rfl rfl
      · rw [hb4]
        obtain ⟨f3, rfl⟩ := fuel_pos hb4 hfu3
        unfold F53_crossroadsref03_May_l1 at hL_3; rw [hb4, cond_true] at hL_3; dsimp only at hL_3
        refine WK.condT rfl ?_
        refine WK.skip ?_
        refine WK.seq ?_
        refine WK.blockK (fun _ hK5 => ?_)
        refine WK.seq ?_
        refine WK.regx mixed ?_
        refine GX.pure (v' := .ptr 0 0) rfl rfl rfl rfl rfl ?_
        refine GX.pure (v' := .int .u32 p0.A) rfl rfl rfl rfl rfl ?_
        refine GX.pure (v' := .int .i64 i3) rfl rfl rfl rfl rfl ?_
        generalize hc21 : F60_crossroadsref03_Bit p0.A i3 = c21 at hL_3
        try dsimp only at hL_3
        refine GX.callp (r := .int .i64 c21) rfl rfl rfl (f60_ok p0.A i3 _ hc21) rfl rfl ?_
        refine GX.pure (v' := .bool (decide (c21 = 1))) rfl rfl rfl rfl rfl ?_
        refine GX.done ?_
        rcases bool_two (decide (c21 = 1)) with hb6 | hb6
        · rw [hb6]; try simp only [hb6, cond_true, cond_false, Bool.true_and, Bool.false_and, Bool.true_or, Bool.false_or, Bool.not_true, Bool.not_false] at hL_3
          refine WK.condF rfl ?_
          refine WK.skip ?_
          refine WK.nil (QF.normal (hK5 _ ?_))
          refine WK.regx mixed ?_
          refine GX.pure (v' := .int .i64 i3) rfl rfl rfl rfl rfl ?_
          refine GX.pure (v' := .int .i64 (IntKind.i64.wrap (i3 + 1))) rfl rfl rfl rfl rfl ?_
          refine GX.pure (v' := .int .i64 (IntKind.i64.wrap (i3 + 1))) rfl rfl rfl rfl rfl ?_
          refine GX.done ?_
          refine WK.nil (QF.normal ?_)
          exact hagain_3 _ f3 ⟨[(1, .ptr 0 0), (3, .int .i64 (IntKind.i64.wrap (i3 + 1)))], [(0, .box (TPrefix.c p0))], 1⟩ (Nat.lt_succ_self _) (Conv.keep [0] [] [1, 3] rfl rfl (viewE_cons rfl rfl (viewE_cons rfl rfl viewE_nil)) rfl rfl) ⟨(IntKind.i64.wrap (i3 + 1)), fuel_up hb4 (by decide) hfu3, hL_3, rfl⟩
        · rw [hb6]; try simp only [hb6, cond_true, cond_false, Bool.true_and, Bool.false_and, Bool.true_or, Bool.false_or, Bool.not_true, Bool.not_false] at hL_3
          refine WK.condT rfl ?_
          refine WK.seq ?_
          refine WK.regx mixed ?_
          refine GX.pure (v' := .bool false) rfl rfl rfl rfl rfl ?_
          refine GX.done ?_
          refine WK.ret ?_
          refine QF.ret ?_
          refine QF.ret (hQ_3 _ _ ?_)
          subst hL_3
          subst hR
          exact RetQ.fr [] (.inr rfl) rfl rfl rfl rfl
    · rw [hb2]; try simp only [hb2, cond_true, cond_false, Bool.true_and, Bool.false_and, Bool.true_or, Bool.false_or, Bool.not_true, Bool.not_false] at hR
      refine WK.condT rfl ?_
      refine WK.seq ?_
      refine WK.regx mixed ?_
      refine GX.pure (v' := .bool false) rfl rfl rfl rfl rfl ?_
      refine GX.done ?_
      refine WK.ret ?_
      subst hR
      exact RetQ.fr [] (.inr rfl) rfl rfl rfl rfl
  · rw [hb1]; try simp only [hb1, cond_true, cond_false, Bool.true_and, Bool.false_and, Bool.true_or, Bool.false_or, Bool.not_true, Bool.not_false] at hR
    refine GX.skip rfl rfl ?_
    refine GX.skip rfl rfl ?_
    refine GX.skip rfl rfl ?_
    refine GX.pure (v' := .bool true) rfl rfl rfl rfl rfl ?_
    refine GX.done ?_
    refine WK.condT rfl ?_
    refine WK.seq ?_
    refine WK.regx mixed ?_
    refine GX.pure (v' := .bool false) rfl rfl rfl rfl rfl ?_
    refine GX.done ?_
    refine WK.ret ?_
    subst hR
    exact RetQ.fr [] (.inr rfl) rfl rfl rfl rfl

theorem f46_ok (x0 : TRule) (R : Bool) (hR : F46_crossroadsref07_May x0 = R) : FnOk Try.prog 46 [.agg (TRule.c x0)] [] 0 (.bool R) [] 0 := by
  refine FnOk.wk i46 rfl rfl ?_
  unfold F46_crossroadsref07_May at hR
  change WK _ _ _ [ac46] _ ⟨[(0, .agg (TRule.c x0))], [], 0⟩
  unfold ac46
  refine WK.seq ?_
  refine WK.regx mixed ?_
  refine GX.step (v' := .ptr 0 0) (heap' := [(0, .box (TRule.c x0))]) (next' := 1) rfl rfl rfl rfl rfl rfl rfl ?_
  refine GX.pure (v' := .bool false) rfl rfl rfl rfl rfl ?_
  refine GX.done ?_
  refine WK.seq ?_
  refine WK.seq ?_
  refine WK.regx mixed ?_
  refine GX.pure (v' := .ptr 0 0) rfl rfl rfl rfl rfl ?_
  refine GX.pure (v' := .int .i64 x0.Seq) rfl rfl rfl rfl rfl ?_
  refine GX.pure (v' := .bool (decide (x0.Seq < 1))) rfl rfl rfl rfl rfl ?_
  refine GX.pure (v' := .bool (decide (x0.Seq < 1))) rfl rfl rfl rfl rfl ?_
  rcases bool_two (decide (x0.Seq < 1)) with hb1 | hb1
  · rw [hb1]; try simp only [hb1, cond_true, cond_false, Bool.true_and, Bool.false_and, Bool.true_or, Bool.false_or, Bool.not_true, Bool.not_false] at hR
    refine GX.pure (v' := .ptr 0 0) rfl rfl rfl rfl rfl ?_
    refine GX.pure (v' := .int .i64 x0.Seq) rfl rfl rfl rfl rfl ?_
    refine GX.pure (v' := .bool (decide (65535 < x0.Seq))) rfl rfl rfl rfl rfl ?_
    refine GX.pure (v' := .bool (decide (65535 < x0.Seq))) rfl rfl rfl rfl rfl ?_
    refine GX.pure (v' := .bool (decide (65535 < x0.Seq))) rfl rfl rfl rfl rfl ?_
    rcases bool_two (decide (65535 < x0.Seq)) with hb2 | hb2
    · rw [hb2]; try simp only [hb2, cond_true, cond_false, Bool.true_and, Bool.false_and, Bool.true_or, Bool.false_or, Bool.not_true, Bool.not_false] at hR
      refine GX.pure (v' := .ptr 0 2) rfl rfl rfl rfl rfl ?_
      refine GX.pure (v' := .agg [.int .u32 x0.P.A, .int .i64 x0.P.N]) rfl rfl rfl rfl rfl ?_
      generalize hc14 : F53_crossroadsref03_May x0.P = c14 at hR
      try dsimp only at hR
      refine GX.callp (r := .bool c14) rfl rfl rfl (f53_ok x0.P _ hc14) rfl rfl ?_
      refine GX.pure (v' := .bool (!c14)) rfl rfl rfl rfl rfl ?_
      refine GX.pure (v' := .bool (!c14)) rfl rfl rfl rfl rfl ?_
      refine GX.done ?_
      rcases bool_two (c14) with hb3 | hb3
      · rw [hb3]; try simp only [hb3, cond_true, cond_false, Bool.true_and, Bool.false_and, Bool.true_or, Bool.false_or, Bool.not_true, Bool.not_false] at hR
        refine WK.condT rfl ?_
        refine WK.seq ?_
        refine WK.regx mixed ?_
        refine GX.pure (v' := .bool false) rfl rfl rfl rfl rfl ?_
        refine GX.done ?_
        refine WK.ret ?_
        subst hR
        exact RetQ.fr [] (.inr rfl) rfl rfl rfl rfl
      · rw [hb3]; try simp only [hb3, cond_true, cond_false, Bool.true_and, Bool.false_and, Bool.true_or, Bool.false_or, Bool.not_true, Bool.not_false] at hR
        refine WK.condF rfl ?_
        refine WK.skip ?_
        refine WK.seq ?_
        refine WK.seq ?_
        refine WK.regx mixed ?_
        refine GX.pure (v' := .ptr 0 4) rfl rfl rfl rfl rfl ?_
        refine GX.pure (v' := .int .i64 x0.Ge) rfl rfl rfl rfl rfl ?_
        refine GX.pure (v' := .bool (!decide (x0.Ge = 0))) rfl rfl rfl rfl rfl ?_
        refine GX.pure (v' := .bool (!decide (x0.Ge = 0))) rfl rfl rfl rfl rfl ?_
        rcases bool_two (decide (x0.Ge = 0)) with hb4 | hb4
        · rw [hb4]; try simp only [hb4, cond_true, cond_false, Bool.true_and, Bool.false_and, Bool.true_or, Bool.false_or, Bool.not_true, Bool.not_false] at hR
          refine GX.pure (v' := .ptr 0 4) rfl rfl rfl rfl rfl ?_
          refine GX.pure (v' := .int .i64 x0.Ge) rfl rfl rfl rfl rfl ?_
          refine GX.pure (v' := .ptr 0 2) rfl rfl rfl rfl rfl ?_
          refine GX.pure (v' := .ptr 0 3) rfl rfl rfl rfl rfl ?_
          refine GX.pure (v' := .int .i64 x0.P.N) rfl rfl rfl rfl rfl ?_
          refine GX.pure (v' := .bool (decide (x0.Ge ≤ x0.P.N))) rfl rfl rfl rfl rfl ?_
          refine GX.pure (v' := .bool (decide (x0.Ge ≤ x0.P.N))) rfl rfl rfl rfl rfl ?_
          rcases bool_two (decide (x0.Ge ≤ x0.P.N)) with hb5 | hb5
          · rw [hb5]; try simp only [hb5, cond_true, cond_false, Bool.true_and, Bool.false_and, Bool.true_or, Bool.false_or, Bool.not_true, Bool.not_false] at hR
            refine GX.pure (v' := .ptr 0 4) rfl rfl rfl rfl rfl ?_
            refine GX.pure (v' := .int .i64 x0.Ge) rfl rfl rfl rfl rfl ?_
            refine GX.pure (v' := .bool (decide (32 < x0.Ge))) rfl rfl rfl rfl rfl ?_
            refine GX.pure (v' := .bool (decide (32 < x0.Ge))) rfl rfl rfl rfl rfl ?_
            refine GX.pure (v' := .bool (decide (32 < x0.Ge))) rfl rfl rfl rfl rfl ?_
            refine GX.done ?_
            rcases bool_two (decide (32 < x0.Ge)) with hb6 | hb6
            · rw [hb6]; try simp only [hb6, cond_true, cond_false, Bool.true_and, Bool.false_and, Bool.true_or, Bool.false_or, Bool.not_true, Bool.not_false] at hR
              refine WK.condF rfl ?_
              refine WK.skip ?_
              refine WK.seq ?_
              refine WK.regx mixed ?_
              refine GX.pure (v' := .ptr 0 5) rfl rfl rfl rfl rfl ?_
              refine GX.pure (v' := .int .i64 x0.Le) rfl rfl rfl rfl rfl ?_
              refine GX.pure (v' := .bool (decide (x0.Le = 0))) rfl rfl rfl rfl rfl ?_
              refine GX.pure (v' := .bool (decide (x0.Le = 0))) rfl rfl rfl rfl rfl ?_
              rcases bool_two (decide (x0.Le = 0)) with hb7 | hb7
              · rw [hb7]; try simp only [hb7, cond_true, cond_false, Bool.true_and, Bool.false_and, Bool.true_or, Bool.false_or, Bool.not_true, Bool.not_false] at hR
                refine GX.pure (v' := .ptr 0 5) rfl rfl rfl rfl rfl ?_
                refine GX.pure (v' := .int .i64 x0.Le) rfl rfl rfl rfl rfl ?_
                refine GX.pure (v' := .ptr 0 4) rfl rfl rfl rfl rfl ?_
                refine GX.pure (v' := .int .i64 x0.Ge) rfl rfl rfl rfl rfl ?_
                refine GX.pure (v' := .bool (decide (x0.Ge ≤ x0.Le))) rfl rfl rfl rfl rfl ?_
                refine GX.pure (v' := .bool (decide (x0.Ge ≤ x0.Le))) rfl rfl rfl rfl rfl ?_
                rcases bool_two (decide (x0.Ge ≤ x0.Le)) with hb8 | hb8
                · rw [hb8]; try simp only [hb8, cond_true, cond_false, Bool.true_and, Bool.false_and, Bool.true_or, Bool.false_or, Bool.not_true, Bool.not_false] at hR
                  refine GX.skip rfl rfl ?_
                  refine GX.skip rfl rfl ?_
                  refine GX.skip rfl rfl ?_
                  refine GX.skip rfl rfl ?_
                  refine GX.skip rfl rfl ?_
                  refine GX.skip rfl rfl ?_
                  refine GX.pure (v' := .bool false) rfl rfl rfl rfl rfl ?_
                  refine GX.pure (v' := .bool false) rfl rfl rfl rfl rfl ?_
                  refine GX.skip rfl rfl ?_
                  refine GX.skip rfl rfl ?_
                  refine GX.skip rfl rfl ?_
                  refine GX.pure (v' := .bool false) rfl rfl rfl rfl rfl ?_
                  refine GX.pure (v' := .bool false) rfl rfl rfl rfl rfl ?_
                  refine GX.pure (v' := .bool false) rfl rfl rfl rfl rfl ?_
                  refine GX.done ?_
                  refine WK.ret ?_
                  subst hR
                  exact RetQ.fr [] (.inr rfl) rfl rfl rfl rfl
                · rw [hb8]; try simp only [hb8, cond_true, cond_false, Bool.true_and, Bool.false_and, Bool.true_or, Bool.false_or, Bool.not_true, Bool.not_false] at hR
                  refine GX.pure (v' := .ptr 0 5) rfl rfl rfl rfl rfl ?_
                  refine GX.pure (v' := .int .i64 x0.Le) rfl rfl rfl rfl rfl ?_
                  refine GX.pure (v' := .ptr 0 2) rfl rfl rfl rfl rfl ?_
                  refine GX.pure (v' := .ptr 0 3) rfl rfl rfl rfl rfl ?_
                  refine GX.pure (v' := .int .i64 x0.P.N) rfl rfl rfl rfl rfl ?_
                  refine GX.pure (v' := .bool (decide (x0.P.N ≤ x0.Le))) rfl rfl rfl rfl rfl ?_
                  refine GX.pure (v' := .bool (decide (x0.P.N ≤ x0.Le))) rfl rfl rfl rfl rfl ?_
                  refine GX.pure (v' := .bool (decide (x0.P.N ≤ x0.Le))) rfl rfl rfl rfl rfl ?_
                  rcases bool_two (decide (x0.P.N ≤ x0.Le)) with hb9 | hb9
                  · rw [hb9]; try simp only [hb9, cond_true, cond_false, Bool.true_and, Bool.false_and, Bool.true_or, Bool.false_or, Bool.not_true, Bool.not_false] at hR
                    refine GX.skip rfl rfl ?_
                    refine GX.skip rfl rfl ?_
                    refine GX.skip rfl rfl ?_
                    refine GX.pure (v' := .bool false) rfl rfl rfl rfl rfl ?_
                    refine GX.pure (v' := .bool false) rfl rfl rfl rfl rfl ?_
                    refine GX.pure (v' := .bool false) rfl rfl rfl rfl rfl ?_
                    refine GX.done ?_
                    refine WK.ret ?_
                    subst hR
                    exact RetQ.fr [] (.inr rfl) rfl rfl rfl rfl
                  · rw [hb9]; try simp only [hb9, cond_true, cond_false, Bool.true_and, Bool.false_and, Bool.true_or, Bool.false_or, Bool.not_true, Bool.not_false] at hR
                    refine GX.pure (v' := .ptr 0 5) rfl rfl rfl rfl rfl ?_
                    refine GX.pure (v' := .int .i64 x0.Le) rfl rfl rfl rfl rfl ?_
                    refine GX.pure (v' := .bool (decide (x0.Le ≤ 32))) rfl rfl rfl rfl rfl ?_
                    refine GX.pure (v' := .bool (decide (x0.Le ≤ 32))) rfl rfl rfl rfl rfl ?_
                    refine GX.pure (v' := .bool (decide (x0.Le ≤ 32))) rfl rfl rfl rfl rfl ?_
                    refine GX.pure (v' := .bool (decide (x0.Le ≤ 32))) rfl rfl rfl rfl rfl ?_
                    refine GX.done ?_
                    refine WK.ret ?_
                    subst hR
                    exact RetQ.fr [] (.inr rfl) rfl rfl rfl rfl
              · rw [hb7]; try simp only [hb7, cond_true, cond_false, Bool.true_and, Bool.false_and, Bool.true_or, Bool.false_or, Bool.not_true, Bool.not_false] at hR
                refine GX.skip rfl rfl ?_
                refine GX.skip rfl rfl ?_
                refine GX.skip rfl rfl ?_
                refine GX.skip rfl rfl ?_
                refine GX.skip rfl rfl ?_
                refine GX.skip rfl rfl ?_
                refine GX.skip rfl rfl ?_
                refine GX.skip rfl rfl ?_
                refine GX.skip rfl rfl ?_
                refine GX.skip rfl rfl ?_
                refine GX.skip rfl rfl ?_
                refine GX.skip rfl rfl ?_
                refine GX.skip rfl rfl ?_
                refine GX.skip rfl rfl ?_
                refine GX.skip rfl rfl ?_
                refine GX.skip rfl rfl ?_
                refine GX.skip rfl rfl ?_
                refine GX.skip rfl rfl ?_
                refine GX.pure (v' := .bool true) rfl rfl rfl rfl rfl ?_
                refine GX.pure (v' := .bool true) rfl rfl rfl rfl rfl ?_
                refine GX.done ?_
                refine WK.ret ?_
                subst hR
                exact RetQ.fr [] (.inr rfl) rfl rfl rfl rfl
            · rw [hb6]; try simp only [hb6, cond_true, cond_false, Bool.true_and, Bool.false_and, Bool.true_or, Bool.false_or, Bool.not_true, Bool.not_false] at hR
              refine WK.condT rfl ?_
              refine WK.seq ?_
              refine WK.regx mixed ?_
              refine GX.pure (v' := .bool false) rfl rfl rfl rfl rfl ?_
              refine GX.done ?_
              refine WK.ret ?_
              subst hR
              exact RetQ.fr [] (.inr rfl) rfl rfl rfl rfl
          · rw [hb5]; try simp only [hb5, cond_true, cond_false, Bool.true_and, Bool.false_and, Bool.true_or, Bool.false_or, Bool.not_true, Bool.not_false] at hR
            refine GX.skip rfl rfl ?_
            refine GX.skip rfl rfl ?_
            refine GX.skip rfl rfl ?_
            refine GX.pure (v' := .bool true) rfl rfl rfl rfl rfl ?_
            refine GX.pure (v' := .bool true) rfl rfl rfl rfl rfl ?_
            refine GX.done ?_
            refine WK.condT rfl ?_
            refine WK.seq ?_
            refine WK.regx mixed ?_
            refine GX.pure (v' := .bool false) rfl rfl rfl rfl rfl ?_
            refine GX.done ?_
            refine WK.ret ?_
            subst hR
            exact RetQ.fr [] (.inr rfl) rfl rfl rfl rfl
        · rw [hb4]; try simp only [hb4, cond_true, cond_false, Bool.true_and, Bool.false_and, Bool.true_or, Bool.false_or, Bool.not_true, Bool.not_false] at hR
          refine GX.skip rfl rfl ?_
          refine GX.skip rfl rfl ?_
          refine GX.skip rfl rfl ?_
          refine GX.skip rfl rfl ?_
          refine GX.skip rfl rfl ?_
          refine GX.skip rfl rfl ?_
          refine GX.skip rfl rfl ?_
          refine GX.skip rfl rfl ?_
          refine GX.skip rfl rfl ?_
          refine GX.skip rfl rfl ?_
          refine GX.skip rfl rfl ?_
          refine GX.pure (v' := .bool false) rfl rfl rfl rfl rfl ?_
          refine GX.done ?_
          refine WK.condF rfl ?_
          refine WK.skip ?_
          refine WK.seq ?_
          refine WK.regx mixed ?_
          refine GX.pure (v' := .ptr 0 5) rfl rfl rfl rfl rfl ?_
          refine GX.pure (v' := .int .i64 x0.Le) rfl rfl rfl rfl rfl ?_
          refine GX.pure (v' := .bool (decide (x0.Le = 0))) rfl rfl rfl rfl rfl ?_
          refine GX.pure (v' := .bool (decide (x0.Le = 0))) rfl rfl rfl rfl rfl ?_
          rcases bool_two (decide (x0.Le = 0)) with hb10 | hb10
          · rw [hb10]; try simp only [hb10, cond_true, cond_false, Bool.true_and, Bool.false_and, Bool.true_or, Bool.false_or, Bool.not_true, Bool.not_false] at hR
            refine GX.pure (v' := .ptr 0 5) rfl rfl rfl rfl rfl ?_
            refine GX.pure (v' := .int .i64 x0.Le) rfl rfl rfl rfl rfl ?_
            refine GX.pure (v' := .ptr 0 4) rfl rfl rfl rfl rfl ?_
            refine GX.pure (v' := .int .i64 x0.Ge) rfl rfl rfl rfl rfl ?_
            refine GX.pure (v' := .bool (decide (x0.Ge ≤ x0.Le))) rfl rfl rfl rfl rfl ?_
            refine GX.pure (v' := .bool (decide (x0.Ge ≤ x0.Le))) rfl rfl rfl rfl rfl ?_
            rcases bool_two (decide (x0.Ge ≤ x0.Le)) with hb11 | hb11
            · rw [hb11]; try simp only [hb11, cond_true, cond_false, Bool.true_and, Bool.false_and, Bool.true_or, Bool.false_or, Bool.not_true, Bool.not_false] at hR
              refine GX.skip rfl rfl ?_
              refine GX.skip rfl rfl ?_
              refine GX.skip rfl rfl ?_
              refine GX.skip rfl rfl ?_
              refine GX.skip rfl rfl ?_
              refine GX.skip rfl rfl ?_
              refine GX.pure (v' := .bool false) rfl rfl rfl rfl rfl ?_
              refine GX.pure (v' := .bool false) rfl rfl rfl rfl rfl ?_
              refine GX.skip rfl rfl ?_
              refine GX.skip rfl rfl ?_
              refine GX.skip rfl rfl ?_
              refine GX.pure (v' := .bool false) rfl rfl rfl rfl rfl ?_
              refine GX.pure (v' := .bool false) rfl rfl rfl rfl rfl ?_
              refine GX.pure (v' := .bool false) rfl rfl rfl rfl rfl ?_
              refine GX.done ?_
              refine WK.ret ?_
              subst hR
              exact RetQ.fr [] (.inr rfl) rfl rfl rfl rfl
            · rw [hb11]; try simp only [hb11, cond_true, cond_false, Bool.true_and, Bool.false_and, Bool.true_or, Bool.false_or, Bool.not_true, Bool.not_false] at hR
              refine GX.pure (v' := .ptr 0 5) rfl rfl rfl rfl rfl ?_
              refine GX.pure (v' := .int .i64 x0.Le) rfl rfl rfl rfl rfl ?_
              refine GX.pure (v' := .ptr 0 2) rfl rfl rfl rfl rfl ?_
              refine GX.pure (v' := .ptr 0 3) rfl rfl rfl rfl rfl ?_
              refine GX.pure (v' := .int .i64 x0.P.N) rfl rfl rfl rfl rfl ?_
              refine GX.pure (v' := .bool (decide (x0.P.N ≤ x0.Le))) rfl rfl rfl rfl rfl ?_
              refine GX.pure (v' := .bool (decide (x0.P.N ≤ x0.Le))) rfl rfl rfl rfl rfl ?_
              refine GX.pure (v' := .bool (decide (x0.P.N ≤ x0.Le))) rfl rfl rfl rfl rfl ?_
              rcases bool_two (decide (x0.P.N ≤ x0.Le)) with hb12 | hb12
              · rw [hb12]; try simp only [hb12, cond_true, cond_false, Bool.true_and, Bool.false_and, Bool.true_or, Bool.false_or, Bool.not_true, Bool.not_false] at hR
                refine GX.skip rfl rfl ?_
                refine GX.skip rfl rfl ?_
                refine GX.skip rfl rfl ?_
                refine GX.pure (v' := .bool false) rfl rfl rfl rfl rfl ?_
                refine GX.pure (v' := .bool false) rfl rfl rfl rfl rfl ?_
                refine GX.pure (v' := .bool false) rfl rfl rfl rfl rfl ?_
                refine GX.done ?_
                refine WK.ret ?_
                subst hR
                exact RetQ.fr [] (.inr rfl) rfl rfl rfl rfl
              · rw [hb12]; try simp only [hb12, cond_true, cond_false, Bool.true_and, Bool.false_and, Bool.true_or, Bool.false_or, Bool.not_true, Bool.not_false] at hR
                refine GX.pure (v' := .ptr 0 5) rfl rfl rfl rfl rfl ?_
                refine GX.pure (v' := .int .i64 x0.Le) rfl rfl rfl rfl rfl ?_
                refine GX.pure (v' := .bool (decide (x0.Le ≤ 32))) rfl rfl rfl rfl rfl ?_
                refine GX.pure (v' := .bool (decide (x0.Le ≤ 32))) rfl rfl rfl rfl rfl ?_
                refine GX.pure (v' := .bool (decide (x0.Le ≤ 32))) rfl rfl rfl rfl rfl ?_
                refine GX.pure (v' := .bool (decide (x0.Le ≤ 32))) rfl rfl rfl rfl rfl ?_
                refine GX.done ?_
                refine WK.ret ?_
                subst hR
                exact RetQ.fr [] (.inr rfl) rfl rfl rfl rfl
          · rw [hb10]; try simp only [hb10, cond_true, cond_false, Bool.true_and, Bool.false_and, Bool.true_or, Bool.false_or, Bool.not_true, Bool.not_false] at hR
            refine GX.skip rfl rfl ?_
            refine GX.skip rfl rfl ?_
            refine GX.skip rfl rfl ?_
            refine GX.skip rfl rfl ?_
            refine GX.skip rfl rfl ?_
            refine GX.skip rfl rfl ?_
            refine GX.skip rfl rfl ?_
            refine GX.skip rfl rfl ?_
            refine GX.skip rfl rfl ?_
            refine GX.skip rfl rfl ?_
            refine GX.skip rfl rfl ?_
            refine GX.skip rfl rfl ?_
            refine GX.skip rfl rfl ?_
            refine GX.skip rfl rfl ?_
            refine GX.skip rfl rfl ?_
            refine GX.skip rfl rfl ?_
            refine GX.skip rfl rfl ?_
            refine GX.skip rfl rfl ?_
            refine GX.pure (v' := .bool true) rfl rfl rfl rfl rfl ?_
            refine GX.pure (v' := .bool true) rfl rfl rfl rfl rfl ?_
            refine GX.done ?_
            refine WK.ret ?_
            subst hR
            exact RetQ.fr [] (.inr rfl) rfl rfl rfl rfl
    · rw [hb2]; try simp only [hb2, cond_true, cond_false, Bool.true_and, Bool.false_and, Bool.true_or, Bool.false_or, Bool.not_true, Bool.not_false] at hR
      refine GX.skip rfl rfl ?_
      refine GX.skip rfl rfl ?_
      refine GX.skip rfl rfl ?_
      refine GX.skip rfl rfl ?_
      refine GX.pure (v' := .bool true) rfl rfl rfl rfl rfl ?_
      refine GX.done ?_
      refine WK.condT rfl ?_
      refine WK.seq ?_
      refine WK.regx mixed ?_
      refine GX.pure (v' := .bool false) rfl rfl rfl rfl rfl ?_
      refine GX.done ?_
      refine WK.ret ?_
      subst hR
      exact RetQ.fr [] (.inr rfl) rfl rfl rfl rfl
  · rw [hb1]; try simp only [hb1, cond_true, cond_false, Bool.true_and, Bool.false_and, Bool.true_or, Bool.false_or, Bool.not_true, Bool.not_false] at hR
    refine GX.skip rfl rfl ?_
    refine GX.skip rfl rfl ?_
    refine GX.skip rfl rfl ?_
    refine GX.pure (v' := .bool true) rfl rfl rfl rfl rfl ?_
    refine GX.pure (v' := .bool true) rfl rfl rfl rfl rfl ?_
    refine GX.skip rfl rfl ?_
    refine GX.skip rfl rfl ?_
    refine GX.skip rfl rfl ?_
    refine GX.skip rfl rfl ?_
    refine GX.pure (v' := .bool true) rfl rfl rfl rfl rfl ?_
    refine GX.done ?_
    refine WK.condT rfl ?_
    refine WK.seq ?_
    refine WK.regx mixed ?_
    refine GX.pure (v' := .bool false) rfl rfl rfl rfl rfl ?_
    refine GX.done ?_
    refine WK.ret ?_
    subst hR
    exact RetQ.fr [] (.inr rfl) rfl rfl rfl rfl

theorem f36_ok (l0 : List TRule) (R : Bool) (hR : F36_crossroadsref07_MayAll l0 = R) : FnOk Try.prog 36 [.ro 6 (l0.map TRule.c)] [] 0 (.bool R) [] 0 := by
  refine FnOk.wk i36 rfl rfl ?_
  unfold F36_crossroadsref07_MayAll at hR
  change WK _ _ _ [ac36] _ ⟨[(0, .ro 6 (l0.map TRule.c))], [], 0⟩
  unfold ac36
  refine WK.seq ?_
  refine WK.regx mixed ?_
  refine GX.pure (v' := .bool false) rfl rfl rfl rfl rfl ?_
  refine GX.done ?_
  refine WK.seq ?_
  refine WK.seq ?_
  refine WK.regx mixed ?_
  refine GX.pure (v' := .int .i64 0) rfl rfl rfl rfl rfl ?_
  refine GX.done ?_
  refine WK.len (t := 0) rfl (by simp) (fun hlen_1 => ?_)
  rw [List.length_map] at hlen_1
  generalize hZ_1 : F36_crossroadsref07_MayAll_l1 l0 0 l0 = Z_1 at hR
  refine WK.forK (fun k s => ∃ (i3 : Nat), i3 ≤ l0.length ∧ k = l0.length - i3 ∧ F36_crossroadsref07_MayAll_l1 l0 i3 (l0.drop i3) = Z_1 ∧ s = ⟨[(0, .ro 6 (l0.map TRule.c)), (3, .int .i64 (i3 : Int))], [], 0⟩) l0.length ⟨⟨[(0, .ro 6 (l0.map TRule.c)), (3, .int .i64 (0 : Int))], [], 0⟩, Conv.keep [] [] [0, 3] rfl rfl (viewE_cons rfl rfl (viewE_cons rfl rfl viewE_nil)) rfl rfl, 0, (by first | omega | ((try simp only [List.length_append, List.length_cons, List.length_nil] at *) <;> omega) | (have hlf := may03_len (by assumption) (by assumption); omega)), rfl, hZ_1, rfl⟩ ?_
  rintro _ _ ⟨i3, hi_1, rfl, hL_1, rfl⟩ again_1 out_1 Q_1 hagain_1 hout_1 hQ_1
  refine WK.seq ?_
  refine WK.seq ?_
  refine WK.regx mixed ?_
  refine GX.pure (v' := .int .i64 (i3 : Int)) rfl rfl rfl rfl rfl ?_
  refine GX.pure (v' := .ro 6 (l0.map TRule.c)) rfl rfl rfl rfl rfl ?_
  refine GX.pure (v' := .int .i64 (l0.length : Int)) rfl rfl rfl rfl (len_map _ _) ?_
  refine GX.pure (v' := .bool (decide ((i3 : Int) < (l0.length : Int)))) rfl rfl rfl rfl rfl ?_
  refine GX.done ?_
  rcases bool_two (decide ((i3 : Int) < (l0.length : Int))) with hb2 | hb2
  · rw [hb2]
    rw [drop_end hb2, F36_crossroadsref07_MayAll_l1] at hL_1
    refine WK.condF rfl ?_
    refine WK.exit ?_
    refine QF.exit (hout_1 _ ?_)
    subst hL_1
    try dsimp only [cond_true, cond_false] at hR
    refine WK.seq ?_
    refine WK.regx mixed ?_
    refine GX.pure (v' := .bool true) rfl rfl rfl rfl rfl ?_
    refine GX.done ?_
    refine WK.ret ?_
    subst hR
    exact RetQ.fr [] (.inr rfl) rfl rfl rfl rfl
  · rw [hb2]
    obtain ⟨x3, hx1, hd1, hlt1⟩ := drop_more hb2
    rw [hd1, F36_crossroadsref07_MayAll_l1] at hL_1
    refine WK.condT rfl ?_
    refine WK.skip ?_
    refine WK.seq ?_
    refine WK.blockK (fun _ hK3 => ?_)
    refine WK.seq ?_
    refine WK.drawn mixed ?_
    refine RD.pure (v' := .ro 6 (l0.map TRule.c)) rfl rfl rfl rfl rfl ?_
    refine RD.pure (v' := .int .i64 (i3 : Int)) rfl rfl rfl rfl rfl ?_
    refine RD.idxT (c := TRule.c) (x := x3) rfl rfl rfl (Int.natCast_nonneg _) hx1 ?_
    refine RD.pure (v' := .agg (TRule.c x3)) rfl rfl rfl rfl rfl ?_
    generalize hc14 : F46_crossroadsref07_May x3 = c14 at hL_1
    try dsimp only at hL_1
    refine RD.callp (r := .bool c14) rfl rfl rfl (f46_ok x3 _ hc14) rfl rfl ?_
    refine RD.pure (v' := .bool (!c14)) rfl rfl rfl rfl rfl ?_
    refine RD.pure (v' := .bool (!c14)) rfl rfl rfl rfl rfl ?_
    rcases bool_two (c14) with hb4 | hb4
    · rw [hb4]; try simp only [hb4, cond_true, cond_false, Bool.true_and, Bool.false_and, Bool.true_or, Bool.false_or, Bool.not_true, Bool.not_false] at hL_1
      refine RD.skip rfl rfl ?_
      refine RD.skip rfl rfl ?_
      refine RD.skip rfl rfl ?_
      refine RD.skip rfl rfl ?_
      refine RD.skip rfl rfl ?_
      refine RD.skip rfl rfl ?_
      refine RD.skip rfl rfl ?_
      refine RD.skip rfl rfl ?_
      refine RD.skip rfl rfl ?_
      refine RD.skip rfl rfl ?_
      refine RD.skip rfl rfl ?_
      refine RD.skip rfl rfl ?_
      refine RD.skip rfl rfl ?_
      refine RD.skip rfl rfl ?_
      refine RD.skip rfl rfl ?_
      refine RD.skip rfl rfl ?_
      refine RD.pure (v' := .bool true) rfl rfl rfl rfl rfl ?_
      refine RD.done rfl ?_
      refine WK.condT rfl ?_
      refine WK.seq ?_
      refine WK.regx mixed ?_
      refine GX.pure (v' := .bool false) rfl rfl rfl rfl rfl ?_
      refine GX.done ?_
      refine WK.ret ?_
      refine QF.ret ?_
      refine QF.ret (hQ_1 _ _ ?_)
      subst hL_1
      subst hR
      exact RetQ.fr [] (.inr rfl) rfl rfl rfl rfl
    · rw [hb4]; try simp only [hb4, cond_true, cond_false, Bool.true_and, Bool.false_and, Bool.true_or, Bool.false_or, Bool.not_true, Bool.not_false] at hL_1
      refine RD.pure (v' := .int .i64 (i3 : Int)) rfl rfl rfl rfl rfl ?_
      refine RD.pure (v' := .bool (decide (0 < (i3 : Int)))) rfl rfl rfl rfl rfl ?_
      refine RD.pure (v' := .bool (decide (0 < (i3 : Int)))) rfl rfl rfl rfl rfl ?_
      rcases bool_two (decide (0 < (i3 : Int))) with hb5 | hb5
      · rw [hb5]; try simp only [hb5, cond_true, cond_false, Bool.true_and, Bool.false_and, Bool.true_or, Bool.false_or, Bool.not_true, Bool.not_false] at hL_1
        refine RD.skip rfl rfl ?_
        refine RD.skip rfl rfl ?_
        refine RD.skip rfl rfl ?_
        refine RD.skip rfl rfl ?_
        refine RD.skip rfl rfl ?_
        refine RD.skip rfl rfl ?_
        refine RD.skip rfl rfl ?_
        refine RD.skip rfl rfl ?_
        refine RD.skip rfl rfl ?_
        refine RD.skip rfl rfl ?_
        refine RD.skip rfl rfl ?_
        refine RD.skip rfl rfl ?_
        refine RD.pure (v' := .bool false) rfl rfl rfl rfl rfl ?_
        refine RD.pure (v' := .bool false) rfl rfl rfl rfl rfl ?_
        refine RD.done rfl ?_
        refine WK.condF rfl ?_
        refine WK.skip ?_
        refine WK.nil (QF.normal (hK3 _ ?_))
        refine WK.regx mixed ?_
        refine GX.pure (v' := .int .i64 (i3 : Int)) rfl rfl rfl rfl rfl ?_
        refine GX.pure (v' := .int .i64 ((i3 + 1 : Nat) : Int)) rfl rfl rfl rfl (congrArg (PVal.int .i64) (wrap_up hlt1 hlen_1)) ?_
        refine GX.pure (v' := .int .i64 ((i3 + 1 : Nat) : Int)) rfl rfl rfl rfl rfl ?_
        refine GX.done ?_
        refine WK.nil (QF.normal ?_)
        exact hagain_1 _ (l0.length - (i3 + 1)) ⟨[(0, .ro 6 (l0.map TRule.c)), (3, .int .i64 ((i3 + 1) : Int))], [], 0⟩ (by first | omega | ((try simp only [List.length_append, List.length_cons, List.length_nil] at *) <;> omega) | (have hlf := may03_len (by assumption) (by assumption); omega)) (Conv.keep [] [] [0, 3] rfl rfl (viewE_cons rfl rfl (viewE_cons rfl rfl viewE_nil)) rfl rfl) ⟨i3 + 1, (by first | omega | ((try simp only [List.length_append, List.length_cons, List.length_nil] at *) <;> omega) | (have hlf := may03_len (by assumption) (by assumption); omega)), rfl, hL_1, rfl⟩
      · rw [hb5]; try simp only [hb5, cond_true, cond_false, Bool.true_and, Bool.false_and, Bool.true_or, Bool.false_or, Bool.not_true, Bool.not_false] at hL_1
        refine RD.pure (v' := .ro 6 (l0.map TRule.c)) rfl rfl rfl rfl rfl ?_
        refine RD.pure (v' := .int .i64 (i3 : Int)) rfl rfl rfl rfl rfl ?_
        refine RD.idxT (c := TRule.c) (x := x3) rfl rfl rfl (Int.natCast_nonneg _) hx1 ?_
        refine RD.pure (v' := .rptr (TRule.c x3)) rfl rfl rfl rfl rfl ?_
        refine RD.pure (v' := .int .i64 x3.Seq) rfl rfl rfl rfl rfl ?_
        refine RD.pure (v' := .ro 6 (l0.map TRule.c)) rfl rfl rfl rfl rfl ?_
        refine RD.pure (v' := .int .i64 (i3 : Int)) rfl rfl rfl rfl rfl ?_
        refine RD.pure (v' := .int .i64 ((i3 - 1 : Nat) : Int)) rfl rfl rfl rfl (congrArg (PVal.int .i64) (wrap_down hb5 hlt1 hlen_1)) ?_
        refine RD.idxT (c := TRule.c) (x := (l0.getD (i3 - 1) default)) rfl rfl rfl (Int.natCast_nonneg _) (getD_at (by first | exact wrap_u64_nonneg _ | exact wrap_u32_nonneg _ | omega | exact F28_slices_IndexFunc_lt (by assumption) (by assumption) | exact F47_slices_IndexFunc_lt (by assumption) (by assumption) | ((try simp only [decide_eq_true_eq, decide_eq_false_iff_not, Bool.not_eq_true, Bool.not_eq_false] at *); first | omega | (rw [wrap64_of (by omega) (by omega)]; omega) | (unfold min_ max_; (repeat' split) <;> first | omega | (rw [wrap64_of (by omega) (by omega)]; omega))))) ?_
        refine RD.pure (v' := .rptr [.int .i64 ((l0.getD (i3 - 1) default).Seq), .bool ((l0.getD (i3 - 1) default).Permit), .int .u32 (((l0.getD (i3 - 1) default).P).A), .int .i64 (((l0.getD (i3 - 1) default).P).N), .int .i64 ((l0.getD (i3 - 1) default).Ge), .int .i64 ((l0.getD (i3 - 1) default).Le)]) rfl rfl rfl rfl rfl ?_
        refine RD.pure (v' := .int .i64 ((l0.getD (i3 - 1) default).Seq)) rfl rfl rfl rfl rfl ?_
        refine RD.pure (v' := .bool (decide (x3.Seq ≤ (l0.getD (i3 - 1) default).Seq))) rfl rfl rfl rfl rfl ?_
        refine RD.pure (v' := .bool (decide (x3.Seq ≤ (l0.getD (i3 - 1) default).Seq))) rfl rfl rfl rfl rfl ?_
        refine RD.pure (v' := .bool (decide (x3.Seq ≤ (l0.getD (i3 - 1) default).Seq))) rfl rfl rfl rfl rfl ?_
        refine RD.done rfl ?_
        rcases bool_two (decide (x3.Seq ≤ (l0.getD (i3 - 1) default).Seq)) with hb6 | hb6
        · rw [hb6]; try simp only [hb6, cond_true, cond_false, Bool.true_and, Bool.false_and, Bool.true_or, Bool.false_or, Bool.not_true, Bool.not_false] at hL_1
          refine WK.condF rfl ?_
          refine WK.skip ?_
          refine WK.nil (QF.normal (hK3 _ ?_))
          refine WK.regx mixed ?_
          refine GX.pure (v' := .int .i64 (i3 : Int)) rfl rfl rfl rfl rfl ?_
          refine GX.pure (v' := .int .i64 ((i3 + 1 : Nat) : Int)) rfl rfl rfl rfl (congrArg (PVal.int .i64) (wrap_up hlt1 hlen_1)) ?_
          refine GX.pure (v' := .int .i64 ((i3 + 1 : Nat) : Int)) rfl rfl rfl rfl rfl ?_
          refine GX.done ?_
          refine WK.nil (QF.normal ?_)
          exact hagain_1 _ (l0.length - (i3 + 1)) ⟨[(0, .ro 6 (l0.map TRule.c)), (3, .int .i64 ((i3 + 1) : Int))], [], 0⟩ (by first | omega | ((try simp only [List.length_append, List.length_cons, List.length_nil] at *) <;> omega) | (have hlf := may03_len (by assumption) (by assumption); omega)) (Conv.keep [] [] [0, 3] rfl rfl (viewE_cons rfl rfl (viewE_cons rfl rfl viewE_nil)) rfl rfl) ⟨i3 + 1, (by first | omega | ((try simp only [List.length_append, List.length_cons, List.length_nil] at *) <;> omega) | (have hlf := may03_len (by assumption) (by assumption); omega)), rfl, hL_1, rfl⟩
        · rw [hb6]; try simp only [hb6, cond_true, cond_false, Bool.true_and, Bool.false_and, Bool.true_or, Bool.false_or, Bool.not_true, Bool.not_false] at hL_1
          refine WK.condT rfl ?_
          refine WK.seq ?_
          refine WK.regx mixed ?_
          refine GX.pure (v' := .bool false) rfl rfl rfl rfl rfl ?_
          refine GX.done ?_
          refine WK.ret ?_
          refine QF.ret ?_
          refine QF.ret (hQ_1 _ _ ?_)
          subst hL_1
          subst hR
          exact RetQ.fr [] (.inr rfl) rfl rfl rfl rfl

theorem f16_ok (x0 : TClause) (R : Bool) (hR : F16_crossroadsref08_May x0 = R) : FnOk Try.prog 16 [.agg (TClause.c x0)] [] 0 (.bool R) [] 0 := by
  refine FnOk.wk i16 rfl rfl ?_
  unfold F16_crossroadsref08_May at hR
  change WK _ _ _ [ac16] _ ⟨[(0, .agg (TClause.c x0))], [], 0⟩
  unfold ac16
  refine WK.seq ?_
  refine WK.regx mixed ?_
  refine GX.step (v' := .ptr 0 0) (heap' := [(0, .box (TClause.c x0))]) (next' := 1) rfl rfl rfl rfl rfl rfl rfl ?_
  refine GX.pure (v' := .bool false) rfl rfl rfl rfl rfl ?_
  refine GX.done ?_
  refine WK.seq ?_
  refine WK.regx mixed ?_
  refine GX.pure (v' := .ptr 0 0) rfl rfl rfl rfl rfl ?_
  refine GX.pure (v' := .int .i64 x0.Seq) rfl rfl rfl rfl rfl ?_
  generalize hc5 : F27_crossroadsref08_in x0.Seq 1 65535 = c5 at hR
  try dsimp only at hR
  refine GX.callp (r := .bool c5) rfl rfl rfl (f27_ok x0.Seq 1 65535 _ hc5) rfl rfl ?_
  refine GX.pure (v' := .bool c5) rfl rfl rfl rfl rfl ?_
  rcases bool_two (c5) with hb1 | hb1
  · rw [hb1]; try simp only [hb1, cond_true, cond_false, Bool.true_and, Bool.false_and, Bool.true_or, Bool.false_or, Bool.not_true, Bool.not_false] at hR
    refine GX.skip rfl rfl ?_
    refine GX.skip rfl rfl ?_
    refine GX.skip rfl rfl ?_
    refine GX.pure (v' := .bool false) rfl rfl rfl rfl rfl ?_
    refine GX.pure (v' := .bool false) rfl rfl rfl rfl rfl ?_
    refine GX.skip rfl rfl ?_
    refine GX.skip rfl rfl ?_
    refine GX.skip rfl rfl ?_
    refine GX.pure (v' := .bool false) rfl rfl rfl rfl rfl ?_
    refine GX.pure (v' := .bool false) rfl rfl rfl rfl rfl ?_
    refine GX.skip rfl rfl ?_
    refine GX.skip rfl rfl ?_
    refine GX.skip rfl rfl ?_
    refine GX.skip rfl rfl ?_
    refine GX.skip rfl rfl ?_
    refine GX.pure (v' := .bool false) rfl rfl rfl rfl rfl ?_
    refine GX.pure (v' := .bool false) rfl rfl rfl rfl rfl ?_
    refine GX.skip rfl rfl ?_
    refine GX.skip rfl rfl ?_
    refine GX.skip rfl rfl ?_
    refine GX.pure (v' := .bool false) rfl rfl rfl rfl rfl ?_
    refine GX.pure (v' := .bool false) rfl rfl rfl rfl rfl ?_
    refine GX.skip rfl rfl ?_
    refine GX.skip rfl rfl ?_
    refine GX.skip rfl rfl ?_
    refine GX.pure (v' := .bool false) rfl rfl rfl rfl rfl ?_
    refine GX.pure (v' := .bool false) rfl rfl rfl rfl rfl ?_
    refine GX.skip rfl rfl ?_
    refine GX.skip rfl rfl ?_
    refine GX.skip rfl rfl ?_
    refine GX.pure (v' := .bool false) rfl rfl rfl rfl rfl ?_
    refine GX.pure (v' := .bool false) rfl rfl rfl rfl rfl ?_
    refine GX.skip rfl rfl ?_
    refine GX.skip rfl rfl ?_
    refine GX.skip rfl rfl ?_
    refine GX.pure (v' := .bool false) rfl rfl rfl rfl rfl ?_
    refine GX.pure (v' := .bool false) rfl rfl rfl rfl rfl ?_
    refine GX.done ?_
    refine WK.ret ?_
    subst hR
    exact RetQ.fr [] (.inr rfl) rfl rfl rfl rfl
  · rw [hb1]; try simp only [hb1, cond_true, cond_false, Bool.true_and, Bool.false_and, Bool.true_or, Bool.false_or, Bool.not_true, Bool.not_false] at hR
    refine GX.pure (v' := .ptr 0 2) rfl rfl rfl rfl rfl ?_
    refine GX.pure (v' := .ro 6 (x0.Listf.map TRule.c)) rfl rfl rfl rfl rfl ?_
    generalize hc9 : F36_crossroadsref07_MayAll x0.Listf = c9 at hR
    try dsimp only at hR
    refine GX.callp (r := .bool c9) rfl rfl rfl (f36_ok x0.Listf _ hc9) rfl rfl ?_
    refine GX.pure (v' := .bool c9) rfl rfl rfl rfl rfl ?_
    refine GX.pure (v' := .bool c9) rfl rfl rfl rfl rfl ?_
    rcases bool_two (c9) with hb2 | hb2
    · rw [hb2]; try simp only [hb2, cond_true, cond_false, Bool.true_and, Bool.false_and, Bool.true_or, Bool.false_or, Bool.not_true, Bool.not_false] at hR
      refine GX.skip rfl rfl ?_
      refine GX.skip rfl rfl ?_
      refine GX.skip rfl rfl ?_
      refine GX.pure (v' := .bool false) rfl rfl rfl rfl rfl ?_
      refine GX.pure (v' := .bool false) rfl rfl rfl rfl rfl ?_
      refine GX.skip rfl rfl ?_
      refine GX.skip rfl rfl ?_
      refine GX.skip rfl rfl ?_
      refine GX.skip rfl rfl ?_
      refine GX.skip rfl rfl ?_
      refine GX.pure (v' := .bool false) rfl rfl rfl rfl rfl ?_
      refine GX.pure (v' := .bool false) rfl rfl rfl rfl rfl ?_
      refine GX.skip rfl rfl ?_
      refine GX.skip rfl rfl ?_
      refine GX.skip rfl rfl ?_
      refine GX.pure (v' := .bool false) rfl rfl rfl rfl rfl ?_
      refine GX.pure (v' := .bool false) rfl rfl rfl rfl rfl ?_
      refine GX.skip rfl rfl ?_
      refine GX.skip rfl rfl ?_
      refine GX.skip rfl rfl ?_
      refine GX.pure (v' := .bool false) rfl rfl rfl rfl rfl ?_
      refine GX.pure (v' := .bool false) rfl rfl rfl rfl rfl ?_
      refine GX.skip rfl rfl ?_
      refine GX.skip rfl rfl ?_
      refine GX.skip rfl rfl ?_
      refine GX.pure (v' := .bool false) rfl rfl rfl rfl rfl ?_
      refine GX.pure (v' := .bool false) rfl rfl rfl rfl rfl ?_
      refine GX.skip rfl rfl ?_
      refine GX.skip rfl rfl ?_
      refine GX.skip rfl rfl ?_
      refine GX.pure (v' := .bool false) rfl rfl rfl rfl rfl ?_
      refine GX.pure (v' := .bool false) rfl rfl rfl rfl rfl ?_
      refine GX.done ?_
      refine WK.ret ?_
      subst hR
      exact RetQ.fr [] (.inr rfl) rfl rfl rfl rfl
    · rw [hb2]; try simp only [hb2, cond_true, cond_false, Bool.true_and, Bool.false_and, Bool.true_or, Bool.false_or, Bool.not_true, Bool.not_false] at hR
      refine GX.pure (v' := .ptr 0 3) rfl rfl rfl rfl rfl ?_
      refine GX.pure (v' := .int .i64 x0.MKind) rfl rfl rfl rfl rfl ?_
      generalize hc14 : F27_crossroadsref08_in x0.MKind (-1) 9 = c14 at hR
      try dsimp only at hR
      refine GX.callp (r := .bool c14) rfl rfl rfl (f27_ok x0.MKind (-1) 9 _ hc14) rfl rfl ?_
      refine GX.pure (v' := .bool c14) rfl rfl rfl rfl rfl ?_
      refine GX.pure (v' := .bool c14) rfl rfl rfl rfl rfl ?_
      rcases bool_two (c14) with hb3 | hb3
      · rw [hb3]; try simp only [hb3, cond_true, cond_false, Bool.true_and, Bool.false_and, Bool.true_or, Bool.false_or, Bool.not_true, Bool.not_false] at hR
        refine GX.skip rfl rfl ?_
        refine GX.skip rfl rfl ?_
        refine GX.skip rfl rfl ?_
        refine GX.skip rfl rfl ?_
        refine GX.skip rfl rfl ?_
        refine GX.pure (v' := .bool false) rfl rfl rfl rfl rfl ?_
        refine GX.pure (v' := .bool false) rfl rfl rfl rfl rfl ?_
        refine GX.skip rfl rfl ?_
        refine GX.skip rfl rfl ?_
        refine GX.skip rfl rfl ?_
        refine GX.pure (v' := .bool false) rfl rfl rfl rfl rfl ?_
        refine GX.pure (v' := .bool false) rfl rfl rfl rfl rfl ?_
        refine GX.skip rfl rfl ?_
        refine GX.skip rfl rfl ?_
        refine GX.skip rfl rfl ?_
        refine GX.pure (v' := .bool false) rfl rfl rfl rfl rfl ?_
        refine GX.pure (v' := .bool false) rfl rfl rfl rfl rfl ?_
        refine GX.skip rfl rfl ?_
        refine GX.skip rfl rfl ?_
        refine GX.skip rfl rfl ?_
        refine GX.pure (v' := .bool false) rfl rfl rfl rfl rfl ?_
        refine GX.pure (v' := .bool false) rfl rfl rfl rfl rfl ?_
        refine GX.skip rfl rfl ?_
        refine GX.skip rfl rfl ?_
        refine GX.skip rfl rfl ?_
        refine GX.pure (v' := .bool false) rfl rfl rfl rfl rfl ?_
        refine GX.pure (v' := .bool false) rfl rfl rfl rfl rfl ?_
        refine GX.done ?_
        refine WK.ret ?_
        subst hR
        exact RetQ.fr [] (.inr rfl) rfl rfl rfl rfl
      · rw [hb3]; try simp only [hb3, cond_true, cond_false, Bool.true_and, Bool.false_and, Bool.true_or, Bool.false_or, Bool.not_true, Bool.not_false] at hR
        refine GX.pure (v' := .ptr 0 4) rfl rfl rfl rfl rfl ?_
        refine GX.pure (v' := .int .i64 x0.MLow) rfl rfl rfl rfl rfl ?_
        refine GX.pure (v' := .ptr 0 5) rfl rfl rfl rfl rfl ?_
        refine GX.pure (v' := .int .i64 x0.MHigh) rfl rfl rfl rfl rfl ?_
        generalize hc21 : F27_crossroadsref08_in x0.MLow 0 x0.MHigh = c21 at hR
        try dsimp only at hR
        refine GX.callp (r := .bool c21) rfl rfl rfl (f27_ok x0.MLow 0 x0.MHigh _ hc21) rfl rfl ?_
        refine GX.pure (v' := .bool c21) rfl rfl rfl rfl rfl ?_
        refine GX.pure (v' := .bool c21) rfl rfl rfl rfl rfl ?_
        rcases bool_two (c21) with hb4 | hb4
        · rw [hb4]; try simp only [hb4, cond_true, cond_false, Bool.true_and, Bool.false_and, Bool.true_or, Bool.false_or, Bool.not_true, Bool.not_false] at hR
          refine GX.skip rfl rfl ?_
          refine GX.skip rfl rfl ?_
          refine GX.skip rfl rfl ?_
          refine GX.pure (v' := .bool false) rfl rfl rfl rfl rfl ?_
          refine GX.pure (v' := .bool false) rfl rfl rfl rfl rfl ?_
          refine GX.skip rfl rfl ?_
          refine GX.skip rfl rfl ?_
          refine GX.skip rfl rfl ?_
          refine GX.pure (v' := .bool false) rfl rfl rfl rfl rfl ?_
          refine GX.pure (v' := .bool false) rfl rfl rfl rfl rfl ?_
          refine GX.skip rfl rfl ?_
          refine GX.skip rfl rfl ?_
          refine GX.skip rfl rfl ?_
          refine GX.pure (v' := .bool false) rfl rfl rfl rfl rfl ?_
          refine GX.pure (v' := .bool false) rfl rfl rfl rfl rfl ?_
          refine GX.skip rfl rfl ?_
          refine GX.skip rfl rfl ?_
          refine GX.skip rfl rfl ?_
          refine GX.pure (v' := .bool false) rfl rfl rfl rfl rfl ?_
          refine GX.pure (v' := .bool false) rfl rfl rfl rfl rfl ?_
          refine GX.done ?_
          refine WK.ret ?_
          subst hR
          exact RetQ.fr [] (.inr rfl) rfl rfl rfl rfl
        · rw [hb4]; try simp only [hb4, cond_true, cond_false, Bool.true_and, Bool.false_and, Bool.true_or, Bool.false_or, Bool.not_true, Bool.not_false] at hR
          refine GX.pure (v' := .ptr 0 5) rfl rfl rfl rfl rfl ?_
          refine GX.pure (v' := .int .i64 x0.MHigh) rfl rfl rfl rfl rfl ?_
          refine GX.pure (v' := .bool (decide (x0.MHigh ≤ 16777215))) rfl rfl rfl rfl rfl ?_
          refine GX.pure (v' := .bool (decide (x0.MHigh ≤ 16777215))) rfl rfl rfl rfl rfl ?_
          refine GX.pure (v' := .bool (decide (x0.MHigh ≤ 16777215))) rfl rfl rfl rfl rfl ?_
          rcases bool_two (decide (x0.MHigh ≤ 16777215)) with hb5 | hb5
          · rw [hb5]; try simp only [hb5, cond_true, cond_false, Bool.true_and, Bool.false_and, Bool.true_or, Bool.false_or, Bool.not_true, Bool.not_false] at hR
            refine GX.skip rfl rfl ?_
            refine GX.skip rfl rfl ?_
            refine GX.skip rfl rfl ?_
            refine GX.pure (v' := .bool false) rfl rfl rfl rfl rfl ?_
            refine GX.pure (v' := .bool false) rfl rfl rfl rfl rfl ?_
            refine GX.skip rfl rfl ?_
            refine GX.skip rfl rfl ?_
            refine GX.skip rfl rfl ?_
            refine GX.pure (v' := .bool false) rfl rfl rfl rfl rfl ?_
            refine GX.pure (v' := .bool false) rfl rfl rfl rfl rfl ?_
            refine GX.skip rfl rfl ?_
            refine GX.skip rfl rfl ?_
            refine GX.skip rfl rfl ?_
            refine GX.pure (v' := .bool false) rfl rfl rfl rfl rfl ?_
            refine GX.pure (v' := .bool false) rfl rfl rfl rfl rfl ?_
            refine GX.done ?_
            refine WK.ret ?_
            subst hR
            exact RetQ.fr [] (.inr rfl) rfl rfl rfl rfl
          · rw [hb5]; try simp only [hb5, cond_true, cond_false, Bool.true_and, Bool.false_and, Bool.true_or, Bool.false_or, Bool.not_true, Bool.not_false] at hR
            refine GX.pure (v' := .ptr 0 7) rfl rfl rfl rfl rfl ?_
            refine GX.pure (v' := .int .i64 x0.SCost) rfl rfl rfl rfl rfl ?_
            generalize hc31 : F27_crossroadsref08_in x0.SCost (-1) 16777215 = c31 at hR
            try dsimp only at hR
            refine GX.callp (r := .bool c31) rfl rfl rfl (f27_ok x0.SCost (-1) 16777215 _ hc31) rfl rfl ?_
            refine GX.pure (v' := .bool c31) rfl rfl rfl rfl rfl ?_
            refine GX.pure (v' := .bool c31) rfl rfl rfl rfl rfl ?_
            rcases bool_two (c31) with hb6 | hb6
            · rw [hb6]; try simp only [hb6, cond_true, cond_false, Bool.true_and, Bool.false_and, Bool.true_or, Bool.false_or, Bool.not_true, Bool.not_false] at hR
              refine GX.skip rfl rfl ?_
              refine GX.skip rfl rfl ?_
              refine GX.skip rfl rfl ?_
              refine GX.pure (v' := .bool false) rfl rfl rfl rfl rfl ?_
              refine GX.pure (v' := .bool false) rfl rfl rfl rfl rfl ?_
              refine GX.skip rfl rfl ?_
              refine GX.skip rfl rfl ?_
              refine GX.skip rfl rfl ?_
              refine GX.pure (v' := .bool false) rfl rfl rfl rfl rfl ?_
              refine GX.pure (v' := .bool false) rfl rfl rfl rfl rfl ?_
              refine GX.done ?_
              refine WK.ret ?_
              subst hR
              exact RetQ.fr [] (.inr rfl) rfl rfl rfl rfl
            · rw [hb6]; try simp only [hb6, cond_true, cond_false, Bool.true_and, Bool.false_and, Bool.true_or, Bool.false_or, Bool.not_true, Bool.not_false] at hR
              refine GX.pure (v' := .ptr 0 8) rfl rfl rfl rfl rfl ?_
              refine GX.pure (v' := .int .i64 x0.SPlus) rfl rfl rfl rfl rfl ?_
              generalize hc36 : F27_crossroadsref08_in x0.SPlus 0 16777215 = c36 at hR
              try dsimp only at hR
              refine GX.callp (r := .bool c36) rfl rfl rfl (f27_ok x0.SPlus 0 16777215 _ hc36) rfl rfl ?_
              refine GX.pure (v' := .bool c36) rfl rfl rfl rfl rfl ?_
              refine GX.pure (v' := .bool c36) rfl rfl rfl rfl rfl ?_
              rcases bool_two (c36) with hb7 | hb7
              · rw [hb7]; try simp only [hb7, cond_true, cond_false, Bool.true_and, Bool.false_and, Bool.true_or, Bool.false_or, Bool.not_true, Bool.not_false] at hR
                refine GX.skip rfl rfl ?_
                refine GX.skip rfl rfl ?_
                refine GX.skip rfl rfl ?_
                refine GX.pure (v' := .bool false) rfl rfl rfl rfl rfl ?_
                refine GX.pure (v' := .bool false) rfl rfl rfl rfl rfl ?_
                refine GX.done ?_
                refine WK.ret ?_
                subst hR
                exact RetQ.fr [] (.inr rfl) rfl rfl rfl rfl
              · rw [hb7]; try simp only [hb7, cond_true, cond_false, Bool.true_and, Bool.false_and, Bool.true_or, Bool.false_or, Bool.not_true, Bool.not_false] at hR
                refine GX.pure (v' := .ptr 0 9) rfl rfl rfl rfl rfl ?_
                refine GX.pure (v' := .int .i64 x0.SKind) rfl rfl rfl rfl rfl ?_
                generalize hc41 : F27_crossroadsref08_in x0.SKind (-1) 9 = c41 at hR
                try dsimp only at hR
                refine GX.callp (r := .bool c41) rfl rfl rfl (f27_ok x0.SKind (-1) 9 _ hc41) rfl rfl ?_
                refine GX.pure (v' := .bool c41) rfl rfl rfl rfl rfl ?_
                refine GX.pure (v' := .bool c41) rfl rfl rfl rfl rfl ?_
                refine GX.done ?_
                refine WK.ret ?_
                subst hR
                exact RetQ.fr [] (.inr rfl) rfl rfl rfl rfl

end Go.Proofs.Ytagiapphmkdnmaa.Abs
