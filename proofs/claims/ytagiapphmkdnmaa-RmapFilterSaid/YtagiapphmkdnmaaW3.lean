/- The functions walked: each computes its Lean function (printed by this work's own program gen.py). -/
import Derived.Test.YtagiapphmkdnmaaW2
set_option linter.unusedVariables false
set_option linter.unusedSimpArgs false
set_option maxRecDepth 10000
set_option maxHeartbeats 4000000
namespace Go.Proofs.Ytagiapphmkdnmaa.Abs
open Go

theorem f47_ok (s0 : List TRule) (gf1 : FuncId) (gf1f gf1c : List PVal) (hf1 : TRule → Bool) (gf1k : PVal.closed.go gf1f = true ∧ PVal.closed.go gf1c = true) (gf1o : ∀ (y0 : TRule) (R : Bool), hf1 y0 = R → FnOk Try.prog gf1 (gf1f ++ [.agg (TRule.c y0)] ++ gf1c) [] 0 (.bool R) [] 0) (R : Int) (hR : F47_slices_IndexFunc s0 hf1 = R) : FnOk Try.prog 47 [.ro 6 (s0.map TRule.c), .fn gf1 gf1f gf1c] [] 0 (.int .i64 R) [] 0 := by
  refine FnOk.wk i47 rfl rfl ?_
  unfold F47_slices_IndexFunc at hR
  change WK _ _ _ [ac47] _ ⟨[(0, .ro 6 (s0.map TRule.c)), (1, .fn gf1 gf1f gf1c)], [], 0⟩
  unfold ac47
  refine WK.seq ?_
  refine WK.regx mixed ?_
  refine GX.pure (v' := .int .i64 0) rfl rfl rfl rfl rfl ?_
  refine GX.done ?_
  refine WK.seq ?_
  refine WK.seq ?_
  refine WK.regx mixed ?_
  refine GX.pure (v' := .ro 6 (s0.map TRule.c)) rfl rfl rfl rfl rfl ?_
  refine GX.pure (v' := .int .i64 (s0.length : Int)) rfl rfl rfl rfl (len_map _ _) ?_
  refine GX.pure (v' := .int .i64 0) rfl rfl rfl rfl rfl ?_
  refine GX.done ?_
  refine WK.len (t := 0) rfl (by simp) (fun hlen_1 => ?_)
  rw [List.length_map] at hlen_1
  generalize hZ_1 : F47_slices_IndexFunc_l1 hf1 0 s0 = Z_1 at hR
  refine WK.forK (fun k s => ∃ (i8 : Nat), i8 ≤ s0.length ∧ k = s0.length - i8 ∧ F47_slices_IndexFunc_l1 hf1 i8 (s0.drop i8) = Z_1 ∧ s = ⟨[(0, .ro 6 (s0.map TRule.c)), (1, .fn gf1 gf1f gf1c), (7, .int .i64 (s0.length : Int)), (8, .int .i64 (i8 : Int))], [], 0⟩) s0.length ⟨⟨[(0, .ro 6 (s0.map TRule.c)), (1, .fn gf1 gf1f gf1c), (7, .int .i64 (s0.length : Int)), (8, .int .i64 (0 : Int))], [], 0⟩, Conv.keep [] [] [0, 1, 7, 8] rfl rfl (viewE_cons rfl rfl (viewE_cons rfl (viewP_fnc gf1k) (viewE_cons rfl rfl (viewE_cons rfl rfl viewE_nil)))) rfl rfl, 0, (by first | omega | ((try simp only [List.length_append, List.length_cons, List.length_nil] at *) <;> omega) | (have hlf := may03_len (by assumption) (by assumption); omega)), rfl, hZ_1, rfl⟩ ?_
  rintro _ _ ⟨i8, hi_1, rfl, hL_1, rfl⟩ again_1 out_1 Q_1 hagain_1 hout_1 hQ_1
  refine WK.seq ?_
  refine WK.regx mixed ?_
  refine GX.pure (v' := .bool (decide ((i8 : Int) < (s0.length : Int)))) rfl rfl rfl rfl rfl ?_
  refine GX.done ?_
  refine WK.seq ?_
  rcases bool_two (decide ((i8 : Int) < (s0.length : Int))) with hb2 | hb2
  · rw [hb2]
    rw [drop_end hb2, F47_slices_IndexFunc_l1] at hL_1
    refine WK.condF rfl ?_
    refine WK.exit ?_
    refine QF.exit (hout_1 _ ?_)
    subst hL_1
    try dsimp only [cond_true, cond_false] at hR
    refine WK.seq ?_
    refine WK.regx mixed ?_
    refine GX.pure (v' := .int .i64 (-1)) rfl rfl rfl rfl rfl ?_
    refine GX.done ?_
    refine WK.ret ?_
    subst hR
    exact RetQ.fr [] (.inr rfl) rfl rfl rfl rfl
  · rw [hb2]
    obtain ⟨x8, hx1, hd1, hlt1⟩ := drop_more hb2
    rw [hd1, F47_slices_IndexFunc_l1] at hL_1
    refine WK.condT rfl ?_
    refine WK.skip ?_
    refine WK.seq ?_
    refine WK.blockK (fun _ hK3 => ?_)
    refine WK.seq ?_
    refine WK.regx mixed ?_
    refine GX.pure (v' := .int .i64 (i8 : Int)) rfl rfl rfl rfl rfl ?_
    refine GX.pure (v' := .int .i64 (i8 : Int)) rfl rfl rfl rfl rfl ?_
    refine GX.done ?_
    refine WK.seq ?_
    refine WK.regx mixed ?_
    refine GX.pure (v' := .fn gf1 gf1f gf1c) rfl rfl rfl rfl rfl ?_
    refine GX.pure (v' := .ro 6 (s0.map TRule.c)) rfl rfl rfl rfl rfl ?_
    refine GX.pure (v' := .int .i64 (i8 : Int)) rfl rfl rfl rfl rfl ?_
    refine GX.idxT (c := TRule.c) (x := x8) rfl rfl rfl (Int.natCast_nonneg _) hx1 ?_
    refine GX.pure (v' := .agg (TRule.c x8)) rfl rfl rfl rfl rfl ?_
    generalize hc16 : hf1 x8 = c16 at hL_1
    try dsimp only at hL_1
    refine GX.callvp (r := .bool c16) rfl rfl rfl (gf1o x8 _ hc16) (closed3 gf1k.1 rfl gf1k.2) rfl ?_
    refine GX.done ?_
    rcases bool_two (c16) with hb4 | hb4
    · rw [hb4]; try simp only [hb4, cond_true, cond_false, Bool.true_and, Bool.false_and, Bool.true_or, Bool.false_or, Bool.not_true, Bool.not_false] at hL_1
      refine WK.condF rfl ?_
      refine WK.skip ?_
      refine WK.nil (QF.normal (hK3 _ ?_))
      refine WK.regx mixed ?_
      refine GX.pure (v' := .int .i64 ((i8 + 1 : Nat) : Int)) rfl rfl rfl rfl (congrArg (PVal.int .i64) (wrap_up hlt1 hlen_1)) ?_
      refine GX.pure (v' := .int .i64 ((i8 + 1 : Nat) : Int)) rfl rfl rfl rfl rfl ?_
      refine GX.done ?_
      refine WK.nil (QF.normal ?_)
      exact hagain_1 _ (s0.length - (i8 + 1)) ⟨[(0, .ro 6 (s0.map TRule.c)), (1, .fn gf1 gf1f gf1c), (7, .int .i64 (s0.length : Int)), (8, .int .i64 ((i8 + 1) : Int))], [], 0⟩ (by first | omega | ((try simp only [List.length_append, List.length_cons, List.length_nil] at *) <;> omega) | (have hlf := may03_len (by assumption) (by assumption); omega)) (Conv.keep [] [] [0, 1, 7, 8] rfl rfl (viewE_cons rfl rfl (viewE_cons rfl (viewP_fnc gf1k) (viewE_cons rfl rfl (viewE_cons rfl rfl viewE_nil)))) rfl rfl) ⟨i8 + 1, (by first | omega | ((try simp only [List.length_append, List.length_cons, List.length_nil] at *) <;> omega) | (have hlf := may03_len (by assumption) (by assumption); omega)), rfl, hL_1, rfl⟩
    · rw [hb4]; try simp only [hb4, cond_true, cond_false, Bool.true_and, Bool.false_and, Bool.true_or, Bool.false_or, Bool.not_true, Bool.not_false] at hL_1
      refine WK.condT rfl ?_
      refine WK.seq ?_
      refine WK.regx mixed ?_
      refine GX.pure (v' := .int .i64 (i8 : Int)) rfl rfl rfl rfl rfl ?_
      refine GX.pure (v' := .int .i64 (i8 : Int)) rfl rfl rfl rfl rfl ?_
      refine GX.done ?_
      refine WK.ret ?_
      refine QF.ret ?_
      refine QF.ret (hQ_1 _ _ ?_)
      subst hL_1
      subst hR
      exact RetQ.fr [] (.inr rfl) rfl rfl rfl rfl

theorem f58_ok (n0 : Int) (R : Bool) (hR : F58_addr_isLong n0 = R) : FnOk Try.prog 58 [.int .i64 n0] [] 0 (.bool R) [] 0 := by
  refine FnOk.wk i58 rfl rfl ?_
  unfold F58_addr_isLong at hR
  change WK _ _ _ [ac58] _ ⟨[(0, .int .i64 n0)], [], 0⟩
  unfold ac58
  refine WK.seq ?_
  refine WK.regx mixed ?_
  refine GX.pure (v' := .bool false) rfl rfl rfl rfl rfl ?_
  refine GX.done ?_
  refine WK.seq ?_
  refine WK.regx mixed ?_
  refine GX.pure (v' := .int .i64 n0) rfl rfl rfl rfl rfl ?_
  refine GX.pure (v' := .bool (decide (0 ≤ n0))) rfl rfl rfl rfl rfl ?_
  refine GX.pure (v' := .bool (decide (0 ≤ n0))) rfl rfl rfl rfl rfl ?_
  rcases bool_two (decide (0 ≤ n0)) with hb1 | hb1
  · rw [hb1]; try simp only [hb1, cond_true, cond_false, Bool.true_and, Bool.false_and, Bool.true_or, Bool.false_or, Bool.not_true, Bool.not_false] at hR
    refine GX.skip rfl rfl ?_
    refine GX.skip rfl rfl ?_
    refine GX.pure (v' := .bool false) rfl rfl rfl rfl rfl ?_
    refine GX.pure (v' := .bool false) rfl rfl rfl rfl rfl ?_
    refine GX.done ?_
    refine WK.ret ?_
    subst hR
    exact RetQ.fr [] (.inr rfl) rfl rfl rfl rfl
  · rw [hb1]; try simp only [hb1, cond_true, cond_false, Bool.true_and, Bool.false_and, Bool.true_or, Bool.false_or, Bool.not_true, Bool.not_false] at hR
    refine GX.pure (v' := .int .i64 n0) rfl rfl rfl rfl rfl ?_
    refine GX.pure (v' := .bool (decide (n0 ≤ 32))) rfl rfl rfl rfl rfl ?_
    refine GX.pure (v' := .bool (decide (n0 ≤ 32))) rfl rfl rfl rfl rfl ?_
    refine GX.pure (v' := .bool (decide (n0 ≤ 32))) rfl rfl rfl rfl rfl ?_
    refine GX.done ?_
    refine WK.ret ?_
    subst hR
    exact RetQ.fr [] (.inr rfl) rfl rfl rfl rfl

theorem f59_ok (n0 : Int) (R : Int) (hR : F59_addr_Mask n0 = R) : FnOk Try.prog 59 [.int .i64 n0] [] 0 (.int .u32 R) [] 0 := by
  refine FnOk.wk i59 rfl rfl ?_
  unfold F59_addr_Mask at hR
  change WK _ _ _ [ac59] _ ⟨[(0, .int .i64 n0)], [], 0⟩
  unfold ac59
  refine WK.seq ?_
  refine WK.regx mixed ?_
  refine GX.pure (v' := .int .u32 0) rfl rfl rfl rfl rfl ?_
  refine GX.done ?_
  refine WK.seq ?_
  refine WK.regx mixed ?_
  refine GX.pure (v' := .int .i64 n0) rfl rfl rfl rfl rfl ?_
  refine GX.pure (v' := .int .i64 (max_ n0 0)) rfl rfl rfl rfl rfl ?_
  refine GX.pure (v' := .int .i64 (min_ (max_ n0 0) 32)) rfl rfl rfl rfl rfl ?_
  refine GX.pure (v' := .int .i64 (min_ (max_ n0 0) 32)) rfl rfl rfl rfl rfl ?_
  refine GX.done ?_
  refine WK.seq ?_
  refine WK.regx mixed ?_
  refine GX.pure (v' := .int .i64 (min_ (max_ n0 0) 32)) rfl rfl rfl rfl rfl ?_
  refine GX.pure (v' := .int .i64 (IntKind.i64.wrap (32 - (min_ (max_ n0 0) 32)))) rfl rfl rfl rfl rfl ?_
  refine GX.shl rfl rfl rfl (by first | exact wrap_u64_nonneg _ | exact wrap_u32_nonneg _ | omega | exact F28_slices_IndexFunc_lt (by assumption) (by assumption) | exact F47_slices_IndexFunc_lt (by assumption) (by assumption) | ((try simp only [decide_eq_true_eq, decide_eq_false_iff_not, Bool.not_eq_true, Bool.not_eq_false] at *); first | omega | (rw [wrap64_of (by omega) (by omega)]; omega) | (unfold min_ max_; (repeat' split) <;> first | omega | (rw [wrap64_of (by omega) (by omega)]; omega)))) ?_
  refine GX.pure (v' := .int .u32 (IntKind.u32.wrap (shl_ .u64 4294967295 (IntKind.i64.wrap (32 - (min_ (max_ n0 0) 32)))))) rfl rfl rfl rfl rfl ?_
  refine GX.pure (v' := .int .u32 (IntKind.u32.wrap (shl_ .u64 4294967295 (IntKind.i64.wrap (32 - (min_ (max_ n0 0) 32)))))) rfl rfl rfl rfl rfl ?_
  refine GX.done ?_
  refine WK.ret ?_
  subst hR
  exact RetQ.fr [] (.inr rfl) rfl rfl rfl rfl

theorem f52_ok (p0 : TPrefix) (R : Bool) (hR : F52_addr_May p0 = R) : FnOk Try.prog 52 [.agg (TPrefix.c p0)] [] 0 (.bool R) [] 0 := by
  refine FnOk.wk i52 rfl rfl ?_
  unfold F52_addr_May at hR
  change WK _ _ _ [ac52] _ ⟨[(0, .agg (TPrefix.c p0))], [], 0⟩
  unfold ac52
  refine WK.seq ?_
  refine WK.regx mixed ?_
  refine GX.step (v' := .ptr 0 0) (heap' := [(0, .box (TPrefix.c p0))]) (next' := 1) rfl rfl rfl rfl rfl rfl rfl ?_
  refine GX.pure (v' := .bool false) rfl rfl rfl rfl rfl ?_
  refine GX.done ?_
  refine WK.seq ?_
  refine WK.drawn mixed ?_
  refine RD.pure (v' := .ptr 0 1) rfl rfl rfl rfl rfl ?_
  refine RD.pure (v' := .int .i64 p0.N) rfl rfl rfl rfl rfl ?_
  generalize hc5 : F58_addr_isLong p0.N = c5 at hR
  try dsimp only at hR
  refine RD.callp (r := .bool c5) rfl rfl rfl (f58_ok p0.N _ hc5) rfl rfl ?_
  refine RD.pure (v' := .bool c5) rfl rfl rfl rfl rfl ?_
  rcases bool_two (c5) with hb1 | hb1
  · rw [hb1]; try simp only [hb1, cond_true, cond_false, Bool.true_and, Bool.false_and, Bool.true_or, Bool.false_or, Bool.not_true, Bool.not_false] at hR
    refine RD.skip rfl rfl ?_
    refine RD.skip rfl rfl ?_
    refine RD.skip rfl rfl ?_
    refine RD.skip rfl rfl ?_
    refine RD.skip rfl rfl ?_
    refine RD.skip rfl rfl ?_
    refine RD.skip rfl rfl ?_
    refine RD.pure (v' := .bool false) rfl rfl rfl rfl rfl ?_
    refine RD.pure (v' := .bool false) rfl rfl rfl rfl rfl ?_
    refine RD.done rfl ?_
    refine WK.ret ?_
    subst hR
    exact RetQ.fr [] (.inr rfl) rfl rfl rfl rfl
  · rw [hb1]; try simp only [hb1, cond_true, cond_false, Bool.true_and, Bool.false_and, Bool.true_or, Bool.false_or, Bool.not_true, Bool.not_false] at hR
    refine RD.pure (v' := .ptr 0 0) rfl rfl rfl rfl rfl ?_
    refine RD.pure (v' := .int .u32 p0.A) rfl rfl rfl rfl rfl ?_
    refine RD.pure (v' := .ptr 0 1) rfl rfl rfl rfl rfl ?_
    refine RD.pure (v' := .int .i64 p0.N) rfl rfl rfl rfl rfl ?_
    generalize hc11 : F59_addr_Mask p0.N = c11 at hR
    try dsimp only at hR
    refine RD.callp (r := .int .u32 c11) rfl rfl rfl (f59_ok p0.N _ hc11) rfl rfl ?_
    refine RD.pure (v' := .int .u32 (bit_andNot .u32 p0.A c11)) rfl rfl rfl rfl rfl ?_
    refine RD.pure (v' := .bool (decide (bit_andNot .u32 p0.A c11 = 0))) rfl rfl rfl rfl rfl ?_
    refine RD.pure (v' := .bool (decide (bit_andNot .u32 p0.A c11 = 0))) rfl rfl rfl rfl rfl ?_
    refine RD.pure (v' := .bool (decide (bit_andNot .u32 p0.A c11 = 0))) rfl rfl rfl rfl rfl ?_
    refine RD.done rfl ?_
    refine WK.ret ?_
    subst hR
    exact RetQ.fr [] (.inr rfl) rfl rfl rfl rfl

theorem f42_ok (x0 : TRule) (R : Bool) (hR : F42_plist_May x0 = R) : FnOk Try.prog 42 [.agg (TRule.c x0)] [] 0 (.bool R) [] 0 := by
  refine FnOk.wk i42 rfl rfl ?_
  unfold F42_plist_May at hR
  change WK _ _ _ [ac42] _ ⟨[(0, .agg (TRule.c x0))], [], 0⟩
  unfold ac42
  refine WK.seq ?_
  refine WK.regx mixed ?_
  refine GX.step (v' := .ptr 0 0) (heap' := [(0, .box (TRule.c x0))]) (next' := 1) rfl rfl rfl rfl rfl rfl rfl ?_
  refine GX.pure (v' := .bool false) rfl rfl rfl rfl rfl ?_
  refine GX.done ?_
  refine WK.seq ?_
  refine WK.seq ?_
  refine WK.regx mixed ?_
  refine GX.pure (v' := .ptr 0 0) rfl rfl rfl rfl rfl ?_
  refine GX.pure (v' := .int .i64 x0.Seq) rfl rfl rfl rfl rfl ?_
  refine GX.pure (v' := .bool (decide (x0.Seq < 1))) rfl rfl rfl rfl rfl ?_
  refine GX.pure (v' := .bool (decide (x0.Seq < 1))) rfl rfl rfl rfl rfl ?_
  rcases bool_two (decide (x0.Seq < 1)) with hb1 | hb1
  · rw [hb1]; try simp only [hb1, cond_true, cond_false, Bool.true_and, Bool.false_and, Bool.true_or, Bool.false_or, Bool.not_true, Bool.not_false] at hR
    refine GX.pure (v' := .ptr 0 0) rfl rfl rfl rfl rfl ?_
    refine GX.pure (v' := .int .i64 x0.Seq) rfl rfl rfl rfl rfl ?_
    refine GX.pure (v' := .bool (decide (65535 < x0.Seq))) rfl rfl rfl rfl rfl ?_
    refine GX.pure (v' := .bool (decide (65535 < x0.Seq))) rfl rfl rfl rfl rfl ?_
    refine GX.pure (v' := .bool (decide (65535 < x0.Seq))) rfl rfl rfl rfl rfl ?_
    rcases bool_two (decide (65535 < x0.Seq)) with hb2 | hb2
    · rw [hb2]; try simp only [hb2, cond_true, cond_false, Bool.true_and, Bool.false_and, Bool.true_or, Bool.false_or, Bool.not_true, Bool.not_false] at hR
      refine GX.pure (v' := .ptr 0 2) rfl rfl rfl rfl rfl ?_
      refine GX.pure (v' := .agg [.int .u32 x0.P.A, .int .i64 x0.P.N]) rfl rfl rfl rfl rfl ?_
      generalize hc16 : F52_addr_May x0.P = c16 at hR
      try dsimp only at hR
      refine GX.callp (r := .bool c16) rfl rfl rfl (f52_ok x0.P _ hc16) rfl rfl ?_
      refine GX.pure (v' := .bool (!c16)) rfl rfl rfl rfl rfl ?_
      refine GX.pure (v' := .bool (!c16)) rfl rfl rfl rfl rfl ?_
      refine GX.done ?_
      rcases bool_two (c16) with hb3 | hb3
      · rw [hb3]; try simp only [hb3, cond_true, cond_false, Bool.true_and, Bool.false_and, Bool.true_or, Bool.false_or, Bool.not_true, Bool.not_false] at hR
        refine WK.condT rfl ?_
        refine WK.seq ?_
        refine WK.regx mixed ?_
        refine GX.pure (v' := .bool false) rfl rfl rfl rfl rfl ?_
        refine GX.done ?_
        refine WK.ret ?_
        subst hR
        exact RetQ.fr [] (.inr rfl) rfl rfl rfl rfl
      · rw [hb3]; try simp only [hb3, cond_true, cond_false, Bool.true_and, Bool.false_and, Bool.true_or, Bool.false_or, Bool.not_true, Bool.not_false] at hR
        refine WK.condF rfl ?_
        refine WK.skip ?_
        refine WK.seq ?_
        refine WK.regx mixed ?_
        refine GX.pure (v' := .ptr 0 4) rfl rfl rfl rfl rfl ?_
        refine GX.pure (v' := .int .i64 x0.Ge) rfl rfl rfl rfl rfl ?_
        refine GX.pure (v' := .bool (decide (x0.Ge = 0))) rfl rfl rfl rfl rfl ?_
        refine GX.pure (v' := .bool (decide (x0.Ge = 0))) rfl rfl rfl rfl rfl ?_
        rcases bool_two (decide (x0.Ge = 0)) with hb4 | hb4
        · rw [hb4]; try simp only [hb4, cond_true, cond_false, Bool.true_and, Bool.false_and, Bool.true_or, Bool.false_or, Bool.not_true, Bool.not_false] at hR
          refine GX.pure (v' := .ptr 0 4) rfl rfl rfl rfl rfl ?_
          refine GX.pure (v' := .int .i64 x0.Ge) rfl rfl rfl rfl rfl ?_
          refine GX.pure (v' := .ptr 0 2) rfl rfl rfl rfl rfl ?_
          refine GX.pure (v' := .ptr 0 3) rfl rfl rfl rfl rfl ?_
          refine GX.pure (v' := .int .i64 x0.P.N) rfl rfl rfl rfl rfl ?_
          refine GX.pure (v' := .bool (decide (x0.P.N < x0.Ge))) rfl rfl rfl rfl rfl ?_
          refine GX.pure (v' := .bool (decide (x0.P.N < x0.Ge))) rfl rfl rfl rfl rfl ?_
          rcases bool_two (decide (x0.P.N < x0.Ge)) with hb5 | hb5
          · rw [hb5]; try simp only [hb5, cond_true, cond_false, Bool.true_and, Bool.false_and, Bool.true_or, Bool.false_or, Bool.not_true, Bool.not_false] at hR
            refine GX.skip rfl rfl ?_
            refine GX.skip rfl rfl ?_
            refine GX.skip rfl rfl ?_
            refine GX.pure (v' := .bool false) rfl rfl rfl rfl rfl ?_
            refine GX.pure (v' := .bool false) rfl rfl rfl rfl rfl ?_
            refine GX.pure (v' := .bool false) rfl rfl rfl rfl rfl ?_
            refine GX.done ?_
            refine WK.seq ?_
            refine WK.regx mixed ?_
            refine GX.pure (v' := .ptr 0 5) rfl rfl rfl rfl rfl ?_
            refine GX.pure (v' := .int .i64 x0.Le) rfl rfl rfl rfl rfl ?_
            refine GX.pure (v' := .bool (decide (x0.Le = 0))) rfl rfl rfl rfl rfl ?_
            refine GX.pure (v' := .bool (decide (x0.Le = 0))) rfl rfl rfl rfl rfl ?_
            rcases bool_two (decide (x0.Le = 0)) with hb6 | hb6
            · rw [hb6]; try simp only [hb6, cond_true, cond_false, Bool.true_and, Bool.false_and, Bool.true_or, Bool.false_or, Bool.not_true, Bool.not_false] at hR
              refine GX.pure (v' := .ptr 0 5) rfl rfl rfl rfl rfl ?_
              refine GX.pure (v' := .int .i64 x0.Le) rfl rfl rfl rfl rfl ?_
              refine GX.pure (v' := .ptr 0 4) rfl rfl rfl rfl rfl ?_
              refine GX.pure (v' := .int .i64 x0.Ge) rfl rfl rfl rfl rfl ?_
              refine GX.pure (v' := .ptr 0 2) rfl rfl rfl rfl rfl ?_
              refine GX.pure (v' := .ptr 0 3) rfl rfl rfl rfl rfl ?_
              refine GX.pure (v' := .int .i64 x0.P.N) rfl rfl rfl rfl rfl ?_
              refine GX.pure (v' := .int .i64 (max_ x0.Ge x0.P.N)) rfl rfl rfl rfl rfl ?_
              refine GX.pure (v' := .bool (decide (max_ x0.Ge x0.P.N ≤ x0.Le))) rfl rfl rfl rfl rfl ?_
              refine GX.pure (v' := .bool (decide (max_ x0.Ge x0.P.N ≤ x0.Le))) rfl rfl rfl rfl rfl ?_
              rcases bool_two (decide (max_ x0.Ge x0.P.N ≤ x0.Le)) with hb7 | hb7
              · rw [hb7]; try simp only [hb7, cond_true, cond_false, Bool.true_and, Bool.false_and, Bool.true_or, Bool.false_or, Bool.not_true, Bool.not_false] at hR
                refine GX.skip rfl rfl ?_
                refine GX.skip rfl rfl ?_
                refine GX.skip rfl rfl ?_
                refine GX.pure (v' := .bool false) rfl rfl rfl rfl rfl ?_
                refine GX.pure (v' := .bool false) rfl rfl rfl rfl rfl ?_
                refine GX.pure (v' := .bool false) rfl rfl rfl rfl rfl ?_
                refine GX.done ?_
                refine WK.seq ?_
                refine WK.regx mixed ?_
                refine GX.pure (v' := .bool false) rfl rfl rfl rfl rfl ?_
                refine GX.pure (v' := .bool false) rfl rfl rfl rfl rfl ?_
                refine GX.skip rfl rfl ?_
                refine GX.pure (v' := .bool false) rfl rfl rfl rfl rfl ?_
                refine GX.pure (v' := .bool false) rfl rfl rfl rfl rfl ?_
                refine GX.done ?_
                refine WK.ret ?_
                subst hR
                exact RetQ.fr [] (.inr rfl) rfl rfl rfl rfl
              · rw [hb7]; try simp only [hb7, cond_true, cond_false, Bool.true_and, Bool.false_and, Bool.true_or, Bool.false_or, Bool.not_true, Bool.not_false] at hR
                refine GX.pure (v' := .ptr 0 5) rfl rfl rfl rfl rfl ?_
                refine GX.pure (v' := .int .i64 x0.Le) rfl rfl rfl rfl rfl ?_
                refine GX.pure (v' := .bool (decide (x0.Le ≤ 32))) rfl rfl rfl rfl rfl ?_
                refine GX.pure (v' := .bool (decide (x0.Le ≤ 32))) rfl rfl rfl rfl rfl ?_
                refine GX.pure (v' := .bool (decide (x0.Le ≤ 32))) rfl rfl rfl rfl rfl ?_
                refine GX.pure (v' := .bool (decide (x0.Le ≤ 32))) rfl rfl rfl rfl rfl ?_
                refine GX.done ?_
                refine WK.seq ?_
                refine WK.regx mixed ?_
                refine GX.pure (v' := .bool false) rfl rfl rfl rfl rfl ?_
                refine GX.pure (v' := .bool false) rfl rfl rfl rfl rfl ?_
                refine GX.skip rfl rfl ?_
                refine GX.pure (v' := .bool false) rfl rfl rfl rfl rfl ?_
                refine GX.pure (v' := .bool false) rfl rfl rfl rfl rfl ?_
                refine GX.done ?_
                refine WK.ret ?_
                subst hR
                exact RetQ.fr [] (.inr rfl) rfl rfl rfl rfl
            · rw [hb6]; try simp only [hb6, cond_true, cond_false, Bool.true_and, Bool.false_and, Bool.true_or, Bool.false_or, Bool.not_true, Bool.not_false] at hR
              refine GX.skip rfl rfl ?_
              refine GX.skip rfl rfl ?_
              refine GX.skip rfl rfl ?_
              refine GX.skip rfl rfl ?_
              refine GX.skip rfl rfl ?_
              refine GX.skip rfl rfl ?_
              refine GX.skip rfl rfl ?_
              refine GX.skip rfl rfl ?_
              refine GX.skip rfl rfl ?_
              refine GX.skip rfl rfl ?_
              refine GX.skip rfl rfl ?_
              refine GX.skip rfl rfl ?_
              refine GX.skip rfl rfl ?_
              refine GX.skip rfl rfl ?_
              refine GX.pure (v' := .bool true) rfl rfl rfl rfl rfl ?_
              refine GX.pure (v' := .bool true) rfl rfl rfl rfl rfl ?_
              refine GX.done ?_
              refine WK.seq ?_
              refine WK.regx mixed ?_
              refine GX.pure (v' := .bool false) rfl rfl rfl rfl rfl ?_
              refine GX.pure (v' := .bool false) rfl rfl rfl rfl rfl ?_
              refine GX.skip rfl rfl ?_
              refine GX.pure (v' := .bool false) rfl rfl rfl rfl rfl ?_
              refine GX.pure (v' := .bool false) rfl rfl rfl rfl rfl ?_
              refine GX.done ?_
              refine WK.ret ?_
              subst hR
              exact RetQ.fr [] (.inr rfl) rfl rfl rfl rfl
          · rw [hb5]; try simp only [hb5, cond_true, cond_false, Bool.true_and, Bool.false_and, Bool.true_or, Bool.false_or, Bool.not_true, Bool.not_false] at hR
            refine GX.pure (v' := .ptr 0 4) rfl rfl rfl rfl rfl ?_
            refine GX.pure (v' := .int .i64 x0.Ge) rfl rfl rfl rfl rfl ?_
            refine GX.pure (v' := .bool (decide (x0.Ge ≤ 32))) rfl rfl rfl rfl rfl ?_
            refine GX.pure (v' := .bool (decide (x0.Ge ≤ 32))) rfl rfl rfl rfl rfl ?_
            refine GX.pure (v' := .bool (decide (x0.Ge ≤ 32))) rfl rfl rfl rfl rfl ?_
            refine GX.pure (v' := .bool (decide (x0.Ge ≤ 32))) rfl rfl rfl rfl rfl ?_
            refine GX.done ?_
            refine WK.seq ?_
            refine WK.regx mixed ?_
            refine GX.pure (v' := .ptr 0 5) rfl rfl rfl rfl rfl ?_
            refine GX.pure (v' := .int .i64 x0.Le) rfl rfl rfl rfl rfl ?_
            refine GX.pure (v' := .bool (decide (x0.Le = 0))) rfl rfl rfl rfl rfl ?_
            refine GX.pure (v' := .bool (decide (x0.Le = 0))) rfl rfl rfl rfl rfl ?_
            rcases bool_two (decide (x0.Le = 0)) with hb8 | hb8
            · rw [hb8]; try simp only [hb8, cond_true, cond_false, Bool.true_and, Bool.false_and, Bool.true_or, Bool.false_or, Bool.not_true, Bool.not_false] at hR
              refine GX.pure (v' := .ptr 0 5) rfl rfl rfl rfl rfl ?_
              refine GX.pure (v' := .int .i64 x0.Le) rfl rfl rfl rfl rfl ?_
              refine GX.pure (v' := .ptr 0 4) rfl rfl rfl rfl rfl ?_
              refine GX.pure (v' := .int .i64 x0.Ge) rfl rfl rfl rfl rfl ?_
              refine GX.pure (v' := .ptr 0 2) rfl rfl rfl rfl rfl ?_
              refine GX.pure (v' := .ptr 0 3) rfl rfl rfl rfl rfl ?_
              refine GX.pure (v' := .int .i64 x0.P.N) rfl rfl rfl rfl rfl ?_
              refine GX.pure (v' := .int .i64 (max_ x0.Ge x0.P.N)) rfl rfl rfl rfl rfl ?_
              refine GX.pure (v' := .bool (decide (max_ x0.Ge x0.P.N ≤ x0.Le))) rfl rfl rfl rfl rfl ?_
              refine GX.pure (v' := .bool (decide (max_ x0.Ge x0.P.N ≤ x0.Le))) rfl rfl rfl rfl rfl ?_
              rcases bool_two (decide (max_ x0.Ge x0.P.N ≤ x0.Le)) with hb9 | hb9
              · rw [hb9]; try simp only [hb9, cond_true, cond_false, Bool.true_and, Bool.false_and, Bool.true_or, Bool.false_or, Bool.not_true, Bool.not_false] at hR
                refine GX.skip rfl rfl ?_
                refine GX.skip rfl rfl ?_
                refine GX.skip rfl rfl ?_
                refine GX.pure (v' := .bool false) rfl rfl rfl rfl rfl ?_
                refine GX.pure (v' := .bool false) rfl rfl rfl rfl rfl ?_
                refine GX.pure (v' := .bool false) rfl rfl rfl rfl rfl ?_
                refine GX.done ?_
                refine WK.seq ?_
                refine WK.regx mixed ?_
                refine GX.pure (v' := .bool (decide (x0.Ge ≤ 32))) rfl rfl rfl rfl rfl ?_
                refine GX.pure (v' := .bool (decide (x0.Ge ≤ 32))) rfl rfl rfl rfl rfl ?_
                rcases bool_two (decide (x0.Ge ≤ 32)) with hb10 | hb10
                · rw [hb10]; try simp only [hb10, cond_true, cond_false, Bool.true_and, Bool.false_and, Bool.true_or, Bool.false_or, Bool.not_true, Bool.not_false] at hR
                  refine GX.skip rfl rfl ?_
                  refine GX.pure (v' := .bool false) rfl rfl rfl rfl rfl ?_
                  refine GX.pure (v' := .bool false) rfl rfl rfl rfl rfl ?_
                  refine GX.done ?_
                  refine WK.ret ?_
                  subst hR
                  exact RetQ.fr [] (.inr rfl) rfl rfl rfl rfl
                · rw [hb10]; try simp only [hb10, cond_true, cond_false, Bool.true_and, Bool.false_and, Bool.true_or, Bool.false_or, Bool.not_true, Bool.not_false] at hR
                  refine GX.pure (v' := .bool false) rfl rfl rfl rfl rfl ?_
                  refine GX.pure (v' := .bool false) rfl rfl rfl rfl rfl ?_
                  refine GX.pure (v' := .bool false) rfl rfl rfl rfl rfl ?_
                  refine GX.done ?_
                  refine WK.ret ?_
                  subst hR
                  exact RetQ.fr [] (.inr rfl) rfl rfl rfl rfl
              · rw [hb9]; try simp only [hb9, cond_true, cond_false, Bool.true_and, Bool.false_and, Bool.true_or, Bool.false_or, Bool.not_true, Bool.not_false] at hR
                refine GX.pure (v' := .ptr 0 5) rfl rfl rfl rfl rfl ?_
                refine GX.pure (v' := .int .i64 x0.Le) rfl rfl rfl rfl rfl ?_
                refine GX.pure (v' := .bool (decide (x0.Le ≤ 32))) rfl rfl rfl rfl rfl ?_
                refine GX.pure (v' := .bool (decide (x0.Le ≤ 32))) rfl rfl rfl rfl rfl ?_
                refine GX.pure (v' := .bool (decide (x0.Le ≤ 32))) rfl rfl rfl rfl rfl ?_
                refine GX.pure (v' := .bool (decide (x0.Le ≤ 32))) rfl rfl rfl rfl rfl ?_
                refine GX.done ?_
                refine WK.seq ?_
                refine WK.regx mixed ?_
                refine GX.pure (v' := .bool (decide (x0.Ge ≤ 32))) rfl rfl rfl rfl rfl ?_
                refine GX.pure (v' := .bool (decide (x0.Ge ≤ 32))) rfl rfl rfl rfl rfl ?_
                rcases bool_two (decide (x0.Ge ≤ 32)) with hb11 | hb11
                · rw [hb11]; try simp only [hb11, cond_true, cond_false, Bool.true_and, Bool.false_and, Bool.true_or, Bool.false_or, Bool.not_true, Bool.not_false] at hR
                  refine GX.skip rfl rfl ?_
                  refine GX.pure (v' := .bool false) rfl rfl rfl rfl rfl ?_
                  refine GX.pure (v' := .bool false) rfl rfl rfl rfl rfl ?_
                  refine GX.done ?_
                  refine WK.ret ?_
                  subst hR
                  exact RetQ.fr [] (.inr rfl) rfl rfl rfl rfl
                · rw [hb11]; try simp only [hb11, cond_true, cond_false, Bool.true_and, Bool.false_and, Bool.true_or, Bool.false_or, Bool.not_true, Bool.not_false] at hR
                  refine GX.pure (v' := .bool (decide (x0.Le ≤ 32))) rfl rfl rfl rfl rfl ?_
                  refine GX.pure (v' := .bool (decide (x0.Le ≤ 32))) rfl rfl rfl rfl rfl ?_
                  refine GX.pure (v' := .bool (decide (x0.Le ≤ 32))) rfl rfl rfl rfl rfl ?_
                  refine GX.done ?_
                  refine WK.ret ?_
                  subst hR
                  exact RetQ.fr [] (.inr rfl) rfl rfl rfl rfl
            · rw [hb8]; try simp only [hb8, cond_true, cond_false, Bool.true_and, Bool.false_and, Bool.true_or, Bool.false_or, Bool.not_true, Bool.not_false] at hR
              refine GX.skip rfl rfl ?_
              refine GX.skip rfl rfl ?_
              refine GX.skip rfl rfl ?_
              refine GX.skip rfl rfl ?_
              refine GX.skip rfl rfl ?_
              refine GX.skip rfl rfl ?_
              refine GX.skip rfl rfl ?_
              refine GX.skip rfl rfl ?_
              refine GX.skip rfl rfl ?_
              refine GX.skip rfl rfl ?_
              refine GX.skip rfl rfl ?_
              refine GX.skip rfl rfl ?_
              refine GX.skip rfl rfl ?_
              refine GX.skip rfl rfl ?_
              refine GX.pure (v' := .bool true) rfl rfl rfl rfl rfl ?_
              refine GX.pure (v' := .bool true) rfl rfl rfl rfl rfl ?_
              refine GX.done ?_
              refine WK.seq ?_
              refine WK.regx mixed ?_
              refine GX.pure (v' := .bool (decide (x0.Ge ≤ 32))) rfl rfl rfl rfl rfl ?_
              refine GX.pure (v' := .bool (decide (x0.Ge ≤ 32))) rfl rfl rfl rfl rfl ?_
              rcases bool_two (decide (x0.Ge ≤ 32)) with hb12 | hb12
              · rw [hb12]; try simp only [hb12, cond_true, cond_false, Bool.true_and, Bool.false_and, Bool.true_or, Bool.false_or, Bool.not_true, Bool.not_false] at hR
                refine GX.skip rfl rfl ?_
                refine GX.pure (v' := .bool false) rfl rfl rfl rfl rfl ?_
                refine GX.pure (v' := .bool false) rfl rfl rfl rfl rfl ?_
                refine GX.done ?_
                refine WK.ret ?_
                subst hR
                exact RetQ.fr [] (.inr rfl) rfl rfl rfl rfl
              · rw [hb12]; try simp only [hb12, cond_true, cond_false, Bool.true_and, Bool.false_and, Bool.true_or, Bool.false_or, Bool.not_true, Bool.not_false] at hR
                refine GX.pure (v' := .bool true) rfl rfl rfl rfl rfl ?_
                refine GX.pure (v' := .bool true) rfl rfl rfl rfl rfl ?_
                refine GX.pure (v' := .bool true) rfl rfl rfl rfl rfl ?_
                refine GX.done ?_
                refine WK.ret ?_
                subst hR
                exact RetQ.fr [] (.inr rfl) rfl rfl rfl rfl
        · rw [hb4]; try simp only [hb4, cond_true, cond_false, Bool.true_and, Bool.false_and, Bool.true_or, Bool.false_or, Bool.not_true, Bool.not_false] at hR
          refine GX.skip rfl rfl ?_
          refine GX.skip rfl rfl ?_
          refine GX.skip rfl rfl ?_
          refine GX.skip rfl rfl ?_
          refine GX.skip rfl rfl ?_
          refine GX.skip rfl rfl ?_
          refine GX.skip rfl rfl ?_
          refine GX.skip rfl rfl ?_
          refine GX.skip rfl rfl ?_
          refine GX.skip rfl rfl ?_
          refine GX.skip rfl rfl ?_
          refine GX.pure (v' := .bool true) rfl rfl rfl rfl rfl ?_
          refine GX.pure (v' := .bool true) rfl rfl rfl rfl rfl ?_
          refine GX.done ?_
          refine WK.seq ?_
          refine WK.regx mixed ?_
          refine GX.pure (v' := .ptr 0 5) rfl rfl rfl rfl rfl ?_
          refine GX.pure (v' := .int .i64 x0.Le) rfl rfl rfl rfl rfl ?_
          refine GX.pure (v' := .bool (decide (x0.Le = 0))) rfl rfl rfl rfl rfl ?_
          refine GX.pure (v' := .bool (decide (x0.Le = 0))) rfl rfl rfl rfl rfl ?_
          rcases bool_two (decide (x0.Le = 0)) with hb13 | hb13
          · rw [hb13]; try simp only [hb13, cond_true, cond_false, Bool.true_and, Bool.false_and, Bool.true_or, Bool.false_or, Bool.not_true, Bool.not_false] at hR
            refine GX.pure (v' := .ptr 0 5) rfl rfl rfl rfl rfl ?_
            refine GX.pure (v' := .int .i64 x0.Le) rfl rfl rfl rfl rfl ?_
            refine GX.pure (v' := .ptr 0 4) rfl rfl rfl rfl rfl ?_
            refine GX.pure (v' := .int .i64 x0.Ge) rfl rfl rfl rfl rfl ?_
            refine GX.pure (v' := .ptr 0 2) rfl rfl rfl rfl rfl ?_
            refine GX.pure (v' := .ptr 0 3) rfl rfl rfl rfl rfl ?_
            refine GX.pure (v' := .int .i64 x0.P.N) rfl rfl rfl rfl rfl ?_
            refine GX.pure (v' := .int .i64 (max_ x0.Ge x0.P.N)) rfl rfl rfl rfl rfl ?_
            refine GX.pure (v' := .bool (decide (max_ x0.Ge x0.P.N ≤ x0.Le))) rfl rfl rfl rfl rfl ?_
            refine GX.pure (v' := .bool (decide (max_ x0.Ge x0.P.N ≤ x0.Le))) rfl rfl rfl rfl rfl ?_
            rcases bool_two (decide (max_ x0.Ge x0.P.N ≤ x0.Le)) with hb14 | hb14
            · rw [hb14]; try simp only [hb14, cond_true, cond_false, Bool.true_and, Bool.false_and, Bool.true_or, Bool.false_or, Bool.not_true, Bool.not_false] at hR
              refine GX.skip rfl rfl ?_
              refine GX.skip rfl rfl ?_
              refine GX.skip rfl rfl ?_
              refine GX.pure (v' := .bool false) rfl rfl rfl rfl rfl ?_
              refine GX.pure (v' := .bool false) rfl rfl rfl rfl rfl ?_
              refine GX.pure (v' := .bool false) rfl rfl rfl rfl rfl ?_
              refine GX.done ?_
              refine WK.seq ?_
              refine WK.regx mixed ?_
              refine GX.pure (v' := .bool true) rfl rfl rfl rfl rfl ?_
              refine GX.pure (v' := .bool true) rfl rfl rfl rfl rfl ?_
              refine GX.pure (v' := .bool false) rfl rfl rfl rfl rfl ?_
              refine GX.pure (v' := .bool false) rfl rfl rfl rfl rfl ?_
              refine GX.pure (v' := .bool false) rfl rfl rfl rfl rfl ?_
              refine GX.done ?_
              refine WK.ret ?_
              subst hR
              exact RetQ.fr [] (.inr rfl) rfl rfl rfl rfl
            · rw [hb14]; try simp only [hb14, cond_true, cond_false, Bool.true_and, Bool.false_and, Bool.true_or, Bool.false_or, Bool.not_true, Bool.not_false] at hR
              refine GX.pure (v' := .ptr 0 5) rfl rfl rfl rfl rfl ?_
              refine GX.pure (v' := .int .i64 x0.Le) rfl rfl rfl rfl rfl ?_
              refine GX.pure (v' := .bool (decide (x0.Le ≤ 32))) rfl rfl rfl rfl rfl ?_
              refine GX.pure (v' := .bool (decide (x0.Le ≤ 32))) rfl rfl rfl rfl rfl ?_
              refine GX.pure (v' := .bool (decide (x0.Le ≤ 32))) rfl rfl rfl rfl rfl ?_
              refine GX.pure (v' := .bool (decide (x0.Le ≤ 32))) rfl rfl rfl rfl rfl ?_
              refine GX.done ?_
              refine WK.seq ?_
              refine WK.regx mixed ?_
              refine GX.pure (v' := .bool true) rfl rfl rfl rfl rfl ?_
              refine GX.pure (v' := .bool true) rfl rfl rfl rfl rfl ?_
              refine GX.pure (v' := .bool (decide (x0.Le ≤ 32))) rfl rfl rfl rfl rfl ?_
              refine GX.pure (v' := .bool (decide (x0.Le ≤ 32))) rfl rfl rfl rfl rfl ?_
              refine GX.pure (v' := .bool (decide (x0.Le ≤ 32))) rfl rfl rfl rfl rfl ?_
              refine GX.done ?_
              refine WK.ret ?_
              subst hR
              exact RetQ.fr [] (.inr rfl) rfl rfl rfl rfl
          · rw [hb13]; try simp only [hb13, cond_true, cond_false, Bool.true_and, Bool.false_and, Bool.true_or, Bool.false_or, Bool.not_true, Bool.not_false] at hR
            refine GX.skip rfl rfl ?_
            refine GX.skip rfl rfl ?_
            refine GX.skip rfl rfl ?_
            refine GX.skip rfl rfl ?_
            refine GX.skip rfl rfl ?_
            refine GX.skip rfl rfl ?_
            refine GX.skip rfl rfl ?_
            refine GX.skip rfl rfl ?_
            refine GX.skip rfl rfl ?_
            refine GX.skip rfl rfl ?_
            refine GX.skip rfl rfl ?_
            refine GX.skip rfl rfl ?_
            refine GX.skip rfl rfl ?_
            refine GX.skip rfl rfl ?_
            refine GX.pure (v' := .bool true) rfl rfl rfl rfl rfl ?_
            refine GX.pure (v' := .bool true) rfl rfl rfl rfl rfl ?_
            refine GX.done ?_
            refine WK.seq ?_
            refine WK.regx mixed ?_
            refine GX.pure (v' := .bool true) rfl rfl rfl rfl rfl ?_
            refine GX.pure (v' := .bool true) rfl rfl rfl rfl rfl ?_
            refine GX.pure (v' := .bool true) rfl rfl rfl rfl rfl ?_
            refine GX.pure (v' := .bool true) rfl rfl rfl rfl rfl ?_
            refine GX.pure (v' := .bool true) rfl rfl rfl rfl rfl ?_
            refine GX.done ?_
            refine WK.ret ?_
            subst hR
            exact RetQ.fr [] (.inr rfl) rfl rfl rfl rfl
    · rw [hb2]; try simp only [hb2, cond_true, cond_false, Bool.true_and, Bool.false_and, Bool.true_or, Bool.false_or, Bool.not_true, Bool.not_false] at hR
      refine GX.skip rfl rfl ?_
      refine GX.skip rfl rfl ?_
      refine GX.skip rfl rfl ?_
      refine GX.skip rfl rfl ?_
      refine GX.pure (v' := .bool true) rfl rfl rfl rfl rfl ?_
      refine GX.done ?_
      refine WK.condT rfl ?_
      refine WK.seq ?_
      refine WK.regx mixed ?_
      refine GX.pure (v' := .bool false) rfl rfl rfl rfl rfl ?_
      refine GX.done ?_
      refine WK.ret ?_
      subst hR
      exact RetQ.fr [] (.inr rfl) rfl rfl rfl rfl
  · rw [hb1]; try simp only [hb1, cond_true, cond_false, Bool.true_and, Bool.false_and, Bool.true_or, Bool.false_or, Bool.not_true, Bool.not_false] at hR
    refine GX.skip rfl rfl ?_
    refine GX.skip rfl rfl ?_
    refine GX.skip rfl rfl ?_
    refine GX.pure (v' := .bool true) rfl rfl rfl rfl rfl ?_
    refine GX.pure (v' := .bool true) rfl rfl rfl rfl rfl ?_
    refine GX.skip rfl rfl ?_
    refine GX.skip rfl rfl ?_
    refine GX.skip rfl rfl ?_
    refine GX.skip rfl rfl ?_
    refine GX.pure (v' := .bool true) rfl rfl rfl rfl rfl ?_
    refine GX.done ?_
    refine WK.condT rfl ?_
    refine WK.seq ?_
    refine WK.regx mixed ?_
    refine GX.pure (v' := .bool false) rfl rfl rfl rfl rfl ?_
    refine GX.done ?_
    refine WK.ret ?_
    subst hR
    exact RetQ.fr [] (.inr rfl) rfl rfl rfl rfl

theorem f54_ok (x0 : TRule) (R : Int × Int) (hR : F54_plist_Rule_bounds x0 = R) : FnOk Try.prog 54 [.agg (TRule.c x0)] [] 0 (.tup [.int .i64 R.1, .int .i64 R.2]) [] 0 := by
  refine FnOk.wk i54 rfl rfl ?_
  unfold F54_plist_Rule_bounds at hR
  change WK _ _ _ [ac54] _ ⟨[(0, .agg (TRule.c x0))], [], 0⟩
  unfold ac54
  refine WK.seq ?_
  refine WK.regx mixed ?_
  refine GX.step (v' := .ptr 0 0) (heap' := [(0, .box (TRule.c x0))]) (next' := 1) rfl rfl rfl rfl rfl rfl rfl ?_
  refine GX.pure (v' := .int .i64 0) rfl rfl rfl rfl rfl ?_
  refine GX.pure (v' := .int .i64 0) rfl rfl rfl rfl rfl ?_
  refine GX.done ?_
  refine WK.seq ?_
  refine WK.blockK (fun _ hK1 => ?_)
  refine WK.seq ?_
  refine WK.regx mixed ?_
  refine GX.pure (v' := .ptr 0 4) rfl rfl rfl rfl rfl ?_
  refine GX.pure (v' := .int .i64 x0.Ge) rfl rfl rfl rfl rfl ?_
  refine GX.pure (v' := .bool (decide (x0.Ge = 0))) rfl rfl rfl rfl rfl ?_
  refine GX.pure (v' := .bool (decide (x0.Ge = 0))) rfl rfl rfl rfl rfl ?_
  rcases bool_two (decide (x0.Ge = 0)) with hb2 | hb2
  · rw [hb2]; try simp only [hb2, cond_true, cond_false, Bool.true_and, Bool.false_and, Bool.true_or, Bool.false_or, Bool.not_true, Bool.not_false] at hR
    refine GX.skip rfl rfl ?_
    refine GX.skip rfl rfl ?_
    refine GX.skip rfl rfl ?_
    refine GX.pure (v' := .bool false) rfl rfl rfl rfl rfl ?_
    refine GX.pure (v' := .bool false) rfl rfl rfl rfl rfl ?_
    refine GX.done ?_
    refine WK.condF rfl ?_
    refine WK.seq ?_
    refine WK.regx mixed ?_
    refine GX.pure (v' := .ptr 0 4) rfl rfl rfl rfl rfl ?_
    refine GX.pure (v' := .int .i64 x0.Ge) rfl rfl rfl rfl rfl ?_
    refine GX.pure (v' := .bool (decide (x0.Ge = 0))) rfl rfl rfl rfl rfl ?_
    refine GX.pure (v' := .bool (decide (x0.Ge = 0))) rfl rfl rfl rfl rfl ?_
    refine GX.done ?_
    rw [hb2]
    refine WK.condF rfl ?_
    refine WK.seq ?_
    refine WK.regx mixed ?_
    refine GX.pure (v' := .ptr 0 5) rfl rfl rfl rfl rfl ?_
    refine GX.pure (v' := .int .i64 x0.Le) rfl rfl rfl rfl rfl ?_
    refine GX.pure (v' := .bool (decide (x0.Le = 0))) rfl rfl rfl rfl rfl ?_
    refine GX.pure (v' := .bool (decide (x0.Le = 0))) rfl rfl rfl rfl rfl ?_
    refine GX.done ?_
    rcases bool_two (decide (x0.Le = 0)) with hb3 | hb3
    · rw [hb3]; try simp only [hb3, cond_true, cond_false, Bool.true_and, Bool.false_and, Bool.true_or, Bool.false_or, Bool.not_true, Bool.not_false] at hR
      refine WK.condF rfl ?_
      refine WK.skip ?_
      refine WK.nil (QF.normal (hK1 _ ?_))
      refine WK.seq ?_
      refine WK.drawn mixed ?_
      refine RD.pure (v' := .ptr 0 4) rfl rfl rfl rfl rfl ?_
      refine RD.pure (v' := .int .i64 x0.Ge) rfl rfl rfl rfl rfl ?_
      refine RD.pure (v' := .ptr 0 5) rfl rfl rfl rfl rfl ?_
      refine RD.pure (v' := .int .i64 x0.Le) rfl rfl rfl rfl rfl ?_
      refine RD.pure (v' := .int .i64 x0.Ge) rfl rfl rfl rfl rfl ?_
      refine RD.pure (v' := .int .i64 x0.Le) rfl rfl rfl rfl rfl ?_
      refine RD.done rfl ?_
      refine WK.ret ?_
      subst hR
      exact RetQ.fr [] (.inr rfl) rfl rfl rfl rfl
    · rw [hb3]; try simp only [hb3, cond_true, cond_false, Bool.true_and, Bool.false_and, Bool.true_or, Bool.false_or, Bool.not_true, Bool.not_false] at hR
      refine WK.condT rfl ?_
      refine WK.seq ?_
      refine WK.regx mixed ?_
      refine GX.pure (v' := .ptr 0 4) rfl rfl rfl rfl rfl ?_
      refine GX.pure (v' := .int .i64 x0.Ge) rfl rfl rfl rfl rfl ?_
      refine GX.pure (v' := .int .i64 x0.Ge) rfl rfl rfl rfl rfl ?_
      refine GX.pure (v' := .int .i64 32) rfl rfl rfl rfl rfl ?_
      refine GX.done ?_
      refine WK.ret ?_
      refine QF.ret ?_
      subst hR
      exact RetQ.fr [] (.inr rfl) rfl rfl rfl rfl
  · rw [hb2]; try simp only [hb2, cond_true, cond_false, Bool.true_and, Bool.false_and, Bool.true_or, Bool.false_or, Bool.not_true, Bool.not_false] at hR
    refine GX.pure (v' := .ptr 0 5) rfl rfl rfl rfl rfl ?_
    refine GX.pure (v' := .int .i64 x0.Le) rfl rfl rfl rfl rfl ?_
    refine GX.pure (v' := .bool (decide (x0.Le = 0))) rfl rfl rfl rfl rfl ?_
    refine GX.pure (v' := .bool (decide (x0.Le = 0))) rfl rfl rfl rfl rfl ?_
    refine GX.pure (v' := .bool (decide (x0.Le = 0))) rfl rfl rfl rfl rfl ?_
    refine GX.done ?_
    rcases bool_two (decide (x0.Le = 0)) with hb4 | hb4
    · rw [hb4]; try simp only [hb4, cond_true, cond_false, Bool.true_and, Bool.false_and, Bool.true_or, Bool.false_or, Bool.not_true, Bool.not_false] at hR
      refine WK.condF rfl ?_
      refine WK.seq ?_
      refine WK.regx mixed ?_
      refine GX.pure (v' := .ptr 0 4) rfl rfl rfl rfl rfl ?_
      refine GX.pure (v' := .int .i64 x0.Ge) rfl rfl rfl rfl rfl ?_
      refine GX.pure (v' := .bool (decide (x0.Ge = 0))) rfl rfl rfl rfl rfl ?_
      refine GX.pure (v' := .bool (decide (x0.Ge = 0))) rfl rfl rfl rfl rfl ?_
      refine GX.done ?_
      rw [hb2]
      refine WK.condT rfl ?_
      refine WK.seq ?_
      refine WK.drawn mixed ?_
      refine RD.pure (v' := .ptr 0 2) rfl rfl rfl rfl rfl ?_
      refine RD.pure (v' := .ptr 0 3) rfl rfl rfl rfl rfl ?_
      refine RD.pure (v' := .int .i64 x0.P.N) rfl rfl rfl rfl rfl ?_
      refine RD.pure (v' := .ptr 0 5) rfl rfl rfl rfl rfl ?_
      refine RD.pure (v' := .int .i64 x0.Le) rfl rfl rfl rfl rfl ?_
      refine RD.pure (v' := .int .i64 x0.P.N) rfl rfl rfl rfl rfl ?_
      refine RD.pure (v' := .int .i64 x0.Le) rfl rfl rfl rfl rfl ?_
      refine RD.done rfl ?_
      refine WK.ret ?_
      refine QF.ret ?_
      subst hR
      exact RetQ.fr [] (.inr rfl) rfl rfl rfl rfl
    · rw [hb4]; try simp only [hb4, cond_true, cond_false, Bool.true_and, Bool.false_and, Bool.true_or, Bool.false_or, Bool.not_true, Bool.not_false] at hR
      refine WK.condT rfl ?_
      refine WK.seq ?_
      refine WK.drawn mixed ?_
      refine RD.pure (v' := .ptr 0 2) rfl rfl rfl rfl rfl ?_
      refine RD.pure (v' := .ptr 0 3) rfl rfl rfl rfl rfl ?_
      refine RD.pure (v' := .int .i64 x0.P.N) rfl rfl rfl rfl rfl ?_
      refine RD.pure (v' := .ptr 0 2) rfl rfl rfl rfl rfl ?_
      refine RD.pure (v' := .ptr 0 3) rfl rfl rfl rfl rfl ?_
      refine RD.pure (v' := .int .i64 x0.P.N) rfl rfl rfl rfl rfl ?_
      refine RD.pure (v' := .int .i64 x0.P.N) rfl rfl rfl rfl rfl ?_
      refine RD.pure (v' := .int .i64 x0.P.N) rfl rfl rfl rfl rfl ?_
      refine RD.done rfl ?_
      refine WK.ret ?_
      refine QF.ret ?_
      subst hR
      exact RetQ.fr [] (.inr rfl) rfl rfl rfl rfl

theorem f61_ok (p0 : TPrefix) (a1 : Int) (R : Bool) (hR : F61_addr_Has p0 a1 = R) : FnOk Try.prog 61 [.agg (TPrefix.c p0), .int .u32 a1] [] 0 (.bool R) [] 0 := by
  refine FnOk.wk i61 rfl rfl ?_
  unfold F61_addr_Has at hR
  change WK _ _ _ [ac61] _ ⟨[(0, .agg (TPrefix.c p0)), (1, .int .u32 a1)], [], 0⟩
  unfold ac61
  refine WK.seq ?_
  refine WK.regx mixed ?_
  refine GX.step (v' := .ptr 0 0) (heap' := [(0, .box (TPrefix.c p0))]) (next' := 1) rfl rfl rfl rfl rfl rfl rfl ?_
  refine GX.pure (v' := .bool false) rfl rfl rfl rfl rfl ?_
  refine GX.done ?_
  refine WK.seq ?_
  refine WK.drawn mixed ?_
  refine RD.pure (v' := .agg (TPrefix.c p0)) rfl rfl rfl rfl rfl ?_
  generalize hc6 : F52_addr_May p0 = c6 at hR
  try dsimp only at hR
  refine RD.callp (r := .bool c6) rfl rfl rfl (f52_ok p0 _ hc6) rfl rfl ?_
  refine RD.pure (v' := .bool c6) rfl rfl rfl rfl rfl ?_
  rcases bool_two (c6) with hb1 | hb1
  · rw [hb1]; try simp only [hb1, cond_true, cond_false, Bool.true_and, Bool.false_and, Bool.true_or, Bool.false_or, Bool.not_true, Bool.not_false] at hR
    refine RD.skip rfl rfl ?_
    refine RD.skip rfl rfl ?_
    refine RD.skip rfl rfl ?_
    refine RD.skip rfl rfl ?_
    refine RD.skip rfl rfl ?_
    refine RD.skip rfl rfl ?_
    refine RD.skip rfl rfl ?_
    refine RD.skip rfl rfl ?_
    refine RD.pure (v' := .bool false) rfl rfl rfl rfl rfl ?_
    refine RD.pure (v' := .bool false) rfl rfl rfl rfl rfl ?_
    refine RD.done rfl ?_
    refine WK.ret ?_
    subst hR
    exact RetQ.fr [] (.inr rfl) rfl rfl rfl rfl
  · rw [hb1]; try simp only [hb1, cond_true, cond_false, Bool.true_and, Bool.false_and, Bool.true_or, Bool.false_or, Bool.not_true, Bool.not_false] at hR
    refine RD.pure (v' := .int .u32 a1) rfl rfl rfl rfl rfl ?_
    refine RD.pure (v' := .ptr 0 1) rfl rfl rfl rfl rfl ?_
    refine RD.pure (v' := .int .i64 p0.N) rfl rfl rfl rfl rfl ?_
    generalize hc11 : F59_addr_Mask p0.N = c11 at hR
    try dsimp only at hR
    refine RD.callp (r := .int .u32 c11) rfl rfl rfl (f59_ok p0.N _ hc11) rfl rfl ?_
    refine RD.pure (v' := .int .u32 (bit_and .u32 a1 c11)) rfl rfl rfl rfl rfl ?_
    refine RD.pure (v' := .ptr 0 0) rfl rfl rfl rfl rfl ?_
    refine RD.pure (v' := .int .u32 p0.A) rfl rfl rfl rfl rfl ?_
    refine RD.pure (v' := .bool (decide (bit_and .u32 a1 c11 = p0.A))) rfl rfl rfl rfl rfl ?_
    refine RD.pure (v' := .bool (decide (bit_and .u32 a1 c11 = p0.A))) rfl rfl rfl rfl rfl ?_
    refine RD.pure (v' := .bool (decide (bit_and .u32 a1 c11 = p0.A))) rfl rfl rfl rfl rfl ?_
    refine RD.done rfl ?_
    refine WK.ret ?_
    subst hR
    exact RetQ.fr [] (.inr rfl) rfl rfl rfl rfl

theorem f55_ok (p0 : TPrefix) (q1 : TPrefix) (R : Bool) (hR : F55_addr_Covers p0 q1 = R) : FnOk Try.prog 55 [.agg (TPrefix.c p0), .agg (TPrefix.c q1)] [] 0 (.bool R) [] 0 := by
  refine FnOk.wk i55 rfl rfl ?_
  unfold F55_addr_Covers at hR
  change WK _ _ _ [ac55] _ ⟨[(0, .agg (TPrefix.c p0)), (1, .agg (TPrefix.c q1))], [], 0⟩
  unfold ac55
  refine WK.seq ?_
  refine WK.regx mixed ?_
  refine GX.step (v' := .ptr 0 0) (heap' := [(0, .box (TPrefix.c p0))]) (next' := 1) rfl rfl rfl rfl rfl rfl rfl ?_
  refine GX.step (v' := .ptr 1 0) (heap' := [(0, .box (TPrefix.c p0)), (1, .box (TPrefix.c q1))]) (next' := 2) rfl rfl rfl rfl rfl rfl rfl ?_
  refine GX.pure (v' := .bool false) rfl rfl rfl rfl rfl ?_
  refine GX.done ?_
  refine WK.seq ?_
  refine WK.regx mixed ?_
  refine GX.pure (v' := .agg (TPrefix.c q1)) rfl rfl rfl rfl rfl ?_
  generalize hc6 : F52_addr_May q1 = c6 at hR
  try dsimp only at hR
  refine GX.callp (r := .bool c6) rfl rfl rfl (f52_ok q1 _ hc6) rfl rfl ?_
  refine GX.pure (v' := .bool c6) rfl rfl rfl rfl rfl ?_
  rcases bool_two (c6) with hb1 | hb1
  · rw [hb1]; try simp only [hb1, cond_true, cond_false, Bool.true_and, Bool.false_and, Bool.true_or, Bool.false_or, Bool.not_true, Bool.not_false] at hR
    refine GX.skip rfl rfl ?_
    refine GX.skip rfl rfl ?_
    refine GX.skip rfl rfl ?_
    refine GX.skip rfl rfl ?_
    refine GX.skip rfl rfl ?_
    refine GX.pure (v' := .bool false) rfl rfl rfl rfl rfl ?_
    refine GX.pure (v' := .bool false) rfl rfl rfl rfl rfl ?_
    refine GX.skip rfl rfl ?_
    refine GX.skip rfl rfl ?_
    refine GX.skip rfl rfl ?_
    refine GX.skip rfl rfl ?_
    refine GX.pure (v' := .bool false) rfl rfl rfl rfl rfl ?_
    refine GX.pure (v' := .bool false) rfl rfl rfl rfl rfl ?_
    refine GX.done ?_
    refine WK.ret ?_
    subst hR
    exact RetQ.fr [] (.inr rfl) rfl rfl rfl rfl
  · rw [hb1]; try simp only [hb1, cond_true, cond_false, Bool.true_and, Bool.false_and, Bool.true_or, Bool.false_or, Bool.not_true, Bool.not_false] at hR
    refine GX.pure (v' := .ptr 0 1) rfl rfl rfl rfl rfl ?_
    refine GX.pure (v' := .int .i64 p0.N) rfl rfl rfl rfl rfl ?_
    refine GX.pure (v' := .ptr 1 1) rfl rfl rfl rfl rfl ?_
    refine GX.pure (v' := .int .i64 q1.N) rfl rfl rfl rfl rfl ?_
    refine GX.pure (v' := .bool (decide (p0.N ≤ q1.N))) rfl rfl rfl rfl rfl ?_
    refine GX.pure (v' := .bool (decide (p0.N ≤ q1.N))) rfl rfl rfl rfl rfl ?_
    refine GX.pure (v' := .bool (decide (p0.N ≤ q1.N))) rfl rfl rfl rfl rfl ?_
    rcases bool_two (decide (p0.N ≤ q1.N)) with hb2 | hb2
    · rw [hb2]; try simp only [hb2, cond_true, cond_false, Bool.true_and, Bool.false_and, Bool.true_or, Bool.false_or, Bool.not_true, Bool.not_false] at hR
      refine GX.skip rfl rfl ?_
      refine GX.skip rfl rfl ?_
      refine GX.skip rfl rfl ?_
      refine GX.skip rfl rfl ?_
      refine GX.pure (v' := .bool false) rfl rfl rfl rfl rfl ?_
      refine GX.pure (v' := .bool false) rfl rfl rfl rfl rfl ?_
      refine GX.done ?_
      refine WK.ret ?_
      subst hR
      exact RetQ.fr [] (.inr rfl) rfl rfl rfl rfl
    · rw [hb2]; try simp only [hb2, cond_true, cond_false, Bool.true_and, Bool.false_and, Bool.true_or, Bool.false_or, Bool.not_true, Bool.not_false] at hR
      refine GX.pure (v' := .agg (TPrefix.c p0)) rfl rfl rfl rfl rfl ?_
      refine GX.pure (v' := .ptr 1 0) rfl rfl rfl rfl rfl ?_
      refine GX.pure (v' := .int .u32 q1.A) rfl rfl rfl rfl rfl ?_
      generalize hc18 : F61_addr_Has p0 q1.A = c18 at hR
      try dsimp only at hR
      refine GX.callp (r := .bool c18) rfl rfl rfl (f61_ok p0 q1.A _ hc18) rfl rfl ?_
      refine GX.pure (v' := .bool c18) rfl rfl rfl rfl rfl ?_
      refine GX.pure (v' := .bool c18) rfl rfl rfl rfl rfl ?_
      refine GX.done ?_
      refine WK.ret ?_
      subst hR
      exact RetQ.fr [] (.inr rfl) rfl rfl rfl rfl

theorem f49_ok (x0 : TRule) (q1 : TPrefix) (R : Bool) (hR : F49_plist_Means x0 q1 = R) : FnOk Try.prog 49 [.agg (TRule.c x0), .agg (TPrefix.c q1)] [] 0 (.bool R) [] 0 := by
  refine FnOk.wk i49 rfl rfl ?_
  unfold F49_plist_Means at hR
  change WK _ _ _ [ac49] _ ⟨[(0, .agg (TRule.c x0)), (1, .agg (TPrefix.c q1))], [], 0⟩
  unfold ac49
  refine WK.seq ?_
  refine WK.regx mixed ?_
  refine GX.step (v' := .ptr 0 0) (heap' := [(0, .box (TRule.c x0))]) (next' := 1) rfl rfl rfl rfl rfl rfl rfl ?_
  refine GX.step (v' := .ptr 1 0) (heap' := [(0, .box (TRule.c x0)), (1, .box (TPrefix.c q1))]) (next' := 2) rfl rfl rfl rfl rfl rfl rfl ?_
  refine GX.pure (v' := .bool false) rfl rfl rfl rfl rfl ?_
  refine GX.done ?_
  refine WK.seq ?_
  refine WK.regx mixed ?_
  refine GX.pure (v' := .agg (TRule.c x0)) rfl rfl rfl rfl rfl ?_
  generalize hc9 : F54_plist_Rule_bounds x0 = c9 at hR
  obtain ⟨c9a, c9b⟩ := c9; try dsimp only at hR
  refine GX.callp (r := .tup [.int .i64 c9a, .int .i64 c9b]) rfl rfl rfl (f54_ok x0 _ hc9) rfl rfl ?_
  refine GX.pure (v' := .tup [.int .i64 c9a, .int .i64 c9b]) rfl rfl rfl rfl rfl ?_
  refine GX.pure (v' := .int .i64 c9a) rfl rfl rfl rfl rfl ?_
  refine GX.pure (v' := .int .i64 c9b) rfl rfl rfl rfl rfl ?_
  refine GX.pure (v' := .int .i64 c9a) rfl rfl rfl rfl rfl ?_
  refine GX.pure (v' := .int .i64 c9b) rfl rfl rfl rfl rfl ?_
  refine GX.done ?_
  refine WK.seq ?_
  refine WK.regx mixed ?_
  refine GX.pure (v' := .agg (TRule.c x0)) rfl rfl rfl rfl rfl ?_
  generalize hc13 : F42_plist_May x0 = c13 at hR
  try dsimp only at hR
  refine GX.callp (r := .bool c13) rfl rfl rfl (f42_ok x0 _ hc13) rfl rfl ?_
  refine GX.pure (v' := .bool c13) rfl rfl rfl rfl rfl ?_
  rcases bool_two (c13) with hb1 | hb1
  · rw [hb1]; try simp only [hb1, cond_true, cond_false, Bool.true_and, Bool.false_and, Bool.true_or, Bool.false_or, Bool.not_true, Bool.not_false] at hR
    refine GX.skip rfl rfl ?_
    refine GX.skip rfl rfl ?_
    refine GX.skip rfl rfl ?_
    refine GX.skip rfl rfl ?_
    refine GX.pure (v' := .bool false) rfl rfl rfl rfl rfl ?_
    refine GX.pure (v' := .bool false) rfl rfl rfl rfl rfl ?_
    refine GX.skip rfl rfl ?_
    refine GX.skip rfl rfl ?_
    refine GX.skip rfl rfl ?_
    refine GX.skip rfl rfl ?_
    refine GX.pure (v' := .bool false) rfl rfl rfl rfl rfl ?_
    refine GX.pure (v' := .bool false) rfl rfl rfl rfl rfl ?_
    refine GX.skip rfl rfl ?_
    refine GX.skip rfl rfl ?_
    refine GX.skip rfl rfl ?_
    refine GX.skip rfl rfl ?_
    refine GX.pure (v' := .bool false) rfl rfl rfl rfl rfl ?_
    refine GX.pure (v' := .bool false) rfl rfl rfl rfl rfl ?_
    refine GX.done ?_
    refine WK.ret ?_
    subst hR
    exact RetQ.fr [] (.inr rfl) rfl rfl rfl rfl
  · rw [hb1]; try simp only [hb1, cond_true, cond_false, Bool.true_and, Bool.false_and, Bool.true_or, Bool.false_or, Bool.not_true, Bool.not_false] at hR
    refine GX.pure (v' := .ptr 0 2) rfl rfl rfl rfl rfl ?_
    refine GX.pure (v' := .agg [.int .u32 x0.P.A, .int .i64 x0.P.N]) rfl rfl rfl rfl rfl ?_
    refine GX.pure (v' := .agg (TPrefix.c q1)) rfl rfl rfl rfl rfl ?_
    generalize hc18 : F55_addr_Covers x0.P q1 = c18 at hR
    try dsimp only at hR
    refine GX.callp (r := .bool c18) rfl rfl rfl (f55_ok x0.P q1 _ hc18) rfl rfl ?_
    refine GX.pure (v' := .bool c18) rfl rfl rfl rfl rfl ?_
    refine GX.pure (v' := .bool c18) rfl rfl rfl rfl rfl ?_
    rcases bool_two (c18) with hb2 | hb2
    · rw [hb2]; try simp only [hb2, cond_true, cond_false, Bool.true_and, Bool.false_and, Bool.true_or, Bool.false_or, Bool.not_true, Bool.not_false] at hR
      refine GX.skip rfl rfl ?_
      refine GX.skip rfl rfl ?_
      refine GX.skip rfl rfl ?_
      refine GX.skip rfl rfl ?_
      refine GX.pure (v' := .bool false) rfl rfl rfl rfl rfl ?_
      refine GX.pure (v' := .bool false) rfl rfl rfl rfl rfl ?_
      refine GX.skip rfl rfl ?_
      refine GX.skip rfl rfl ?_
      refine GX.skip rfl rfl ?_
      refine GX.skip rfl rfl ?_
      refine GX.pure (v' := .bool false) rfl rfl rfl rfl rfl ?_
      refine GX.pure (v' := .bool false) rfl rfl rfl rfl rfl ?_
      refine GX.done ?_
      refine WK.ret ?_
      subst hR
      exact RetQ.fr [] (.inr rfl) rfl rfl rfl rfl
    · rw [hb2]; try simp only [hb2, cond_true, cond_false, Bool.true_and, Bool.false_and, Bool.true_or, Bool.false_or, Bool.not_true, Bool.not_false] at hR
      refine GX.pure (v' := .ptr 1 1) rfl rfl rfl rfl rfl ?_
      refine GX.pure (v' := .int .i64 q1.N) rfl rfl rfl rfl rfl ?_
      refine GX.pure (v' := .int .i64 c9a) rfl rfl rfl rfl rfl ?_
      refine GX.pure (v' := .bool (decide (c9a ≤ q1.N))) rfl rfl rfl rfl rfl ?_
      refine GX.pure (v' := .bool (decide (c9a ≤ q1.N))) rfl rfl rfl rfl rfl ?_
      refine GX.pure (v' := .bool (decide (c9a ≤ q1.N))) rfl rfl rfl rfl rfl ?_
      rcases bool_two (decide (c9a ≤ q1.N)) with hb3 | hb3
      · rw [hb3]; try simp only [hb3, cond_true, cond_false, Bool.true_and, Bool.false_and, Bool.true_or, Bool.false_or, Bool.not_true, Bool.not_false] at hR
        refine GX.skip rfl rfl ?_
        refine GX.skip rfl rfl ?_
        refine GX.skip rfl rfl ?_
        refine GX.skip rfl rfl ?_
        refine GX.pure (v' := .bool false) rfl rfl rfl rfl rfl ?_
        refine GX.pure (v' := .bool false) rfl rfl rfl rfl rfl ?_
        refine GX.done ?_
        refine WK.ret ?_
        subst hR
        exact RetQ.fr [] (.inr rfl) rfl rfl rfl rfl
      · rw [hb3]; try simp only [hb3, cond_true, cond_false, Bool.true_and, Bool.false_and, Bool.true_or, Bool.false_or, Bool.not_true, Bool.not_false] at hR
        refine GX.pure (v' := .ptr 1 1) rfl rfl rfl rfl rfl ?_
        refine GX.pure (v' := .int .i64 q1.N) rfl rfl rfl rfl rfl ?_
        refine GX.pure (v' := .int .i64 c9b) rfl rfl rfl rfl rfl ?_
        refine GX.pure (v' := .bool (decide (q1.N ≤ c9b))) rfl rfl rfl rfl rfl ?_
        refine GX.pure (v' := .bool (decide (q1.N ≤ c9b))) rfl rfl rfl rfl rfl ?_
        refine GX.pure (v' := .bool (decide (q1.N ≤ c9b))) rfl rfl rfl rfl rfl ?_
        refine GX.done ?_
        refine WK.ret ?_
        subst hR
        exact RetQ.fr [] (.inr rfl) rfl rfl rfl rfl

theorem f48_ok (x0 : TRule) (a1 : TPrefix) (R : Bool) (hR : F48_plist_Eval_1 x0 a1 = R) : FnOk Try.prog 48 [.agg (TRule.c x0), .rptr (TPrefix.c a1)] [] 0 (.bool R) [] 0 := by
  refine FnOk.wk i48 rfl rfl ?_
  unfold F48_plist_Eval_1 at hR
  change WK _ _ _ [ac48] _ ⟨[(0, .agg (TRule.c x0)), (1, .rptr (TPrefix.c a1))], [], 0⟩
  unfold ac48
  refine WK.seq ?_
  refine WK.regx mixed ?_
  refine GX.step (v' := .ptr 0 0) (heap' := [(0, .box (TRule.c x0))]) (next' := 1) rfl rfl rfl rfl rfl rfl rfl ?_
  refine GX.pure (v' := .bool false) rfl rfl rfl rfl rfl ?_
  refine GX.done ?_
  refine WK.seq ?_
  refine WK.regx mixed ?_
  refine GX.pure (v' := .agg (TRule.c x0)) rfl rfl rfl rfl rfl ?_
  refine GX.pure (v' := .agg (TPrefix.c a1)) rfl rfl rfl rfl rfl ?_
  generalize hc6 : F49_plist_Means x0 a1 = c6 at hR
  try dsimp only at hR
  refine GX.callp (r := .bool c6) rfl rfl rfl (f49_ok x0 a1 _ hc6) rfl rfl ?_
  refine GX.pure (v' := .bool c6) rfl rfl rfl rfl rfl ?_
  refine GX.done ?_
  refine WK.ret ?_
  subst hR
  exact RetQ.fr [] (.inr rfl) rfl rfl rfl rfl

theorem f38_ok (l0 : List TRule) (q1 : TPrefix) (R : Bool × Int) (hR : F38_plist_Eval l0 q1 = R) : FnOk Try.prog 38 [.ro 6 (l0.map TRule.c), .agg (TPrefix.c q1)] [] 0 (.tup [.bool R.1, .int .i64 R.2]) [] 0 := by
  refine FnOk.wk i38 rfl rfl ?_
  unfold F38_plist_Eval at hR
  change WK _ _ _ [ac38] _ ⟨[(0, .ro 6 (l0.map TRule.c)), (1, .agg (TPrefix.c q1))], [], 0⟩
  unfold ac38
  refine WK.seq ?_
  refine WK.regx mixed ?_
  refine GX.step (v' := .ptr 0 0) (heap' := [(0, .box (TPrefix.c q1))]) (next' := 1) rfl rfl rfl rfl rfl rfl rfl ?_
  refine GX.pure (v' := .bool false) rfl rfl rfl rfl rfl ?_
  refine GX.pure (v' := .int .i64 0) rfl rfl rfl rfl rfl ?_
  refine GX.done ?_
  refine WK.seq ?_
  refine WK.regx mixed ?_
  refine GX.pure (v' := .ro 6 (l0.map TRule.c)) rfl rfl rfl rfl rfl ?_
  refine GX.pure (v' := .fn 48 [] [.ptr 0 0]) rfl rfl rfl rfl rfl ?_
  generalize hc9 : F47_slices_IndexFunc l0 (fun y0 => F48_plist_Eval_1 y0 q1) = c9 at hR
  try dsimp only at hR
  refine GX.callbp (r := .int .i64 c9) [0] rfl rfl rfl rfl (f47_ok l0 48 [] [.rptr (TPrefix.c q1)] (fun y0 => F48_plist_Eval_1 y0 q1) ⟨rfl, rfl⟩ (fun y0 _ hr => f48_ok y0 q1 _ hr) _ hc9) rfl rfl ?_
  refine GX.pure (v' := .int .i64 c9) rfl rfl rfl rfl rfl ?_
  refine GX.done ?_
  refine WK.seq ?_
  refine WK.seq ?_
  refine WK.regx mixed ?_
  refine GX.pure (v' := .int .i64 c9) rfl rfl rfl rfl rfl ?_
  refine GX.pure (v' := .bool (decide (c9 < 0))) rfl rfl rfl rfl rfl ?_
  refine GX.done ?_
  rcases bool_two (decide (c9 < 0)) with hb1 | hb1
  · rw [hb1]; try simp only [hb1, cond_true, cond_false, Bool.true_and, Bool.false_and, Bool.true_or, Bool.false_or, Bool.not_true, Bool.not_false] at hR
    refine WK.condF rfl ?_
    refine WK.skip ?_
    refine WK.seq ?_
    refine WK.drawn mixed ?_
    refine RD.pure (v' := .ro 6 (l0.map TRule.c)) rfl rfl rfl rfl rfl ?_
    refine RD.pure (v' := .int .i64 c9) rfl rfl rfl rfl rfl ?_
    refine RD.idxT (c := TRule.c) (x := (l0.getD c9.toNat default)) rfl rfl rfl (by first | exact wrap_u64_nonneg _ | exact wrap_u32_nonneg _ | omega | exact F28_slices_IndexFunc_lt (by assumption) (by assumption) | exact F47_slices_IndexFunc_lt (by assumption) (by assumption) | ((try simp only [decide_eq_true_eq, decide_eq_false_iff_not, Bool.not_eq_true, Bool.not_eq_false] at *); first | omega | (rw [wrap64_of (by omega) (by omega)]; omega) | (unfold min_ max_; (repeat' split) <;> first | omega | (rw [wrap64_of (by omega) (by omega)]; omega)))) (getD_at (by first | exact wrap_u64_nonneg _ | exact wrap_u32_nonneg _ | omega | exact F28_slices_IndexFunc_lt (by assumption) (by assumption) | exact F47_slices_IndexFunc_lt (by assumption) (by assumption) | ((try simp only [decide_eq_true_eq, decide_eq_false_iff_not, Bool.not_eq_true, Bool.not_eq_false] at *); first | omega | (rw [wrap64_of (by omega) (by omega)]; omega) | (unfold min_ max_; (repeat' split) <;> first | omega | (rw [wrap64_of (by omega) (by omega)]; omega))))) ?_
    refine RD.pure (v' := .rptr [.bool ((l0.getD c9.toNat default).Permit), .int .u32 (((l0.getD c9.toNat default).P).A), .int .i64 (((l0.getD c9.toNat default).P).N), .int .i64 ((l0.getD c9.toNat default).Ge), .int .i64 ((l0.getD c9.toNat default).Le)]) rfl rfl rfl rfl rfl ?_
    refine RD.pure (v' := .bool ((l0.getD c9.toNat default).Permit)) rfl rfl rfl rfl rfl ?_
    refine RD.pure (v' := .ro 6 (l0.map TRule.c)) rfl rfl rfl rfl rfl ?_
    refine RD.pure (v' := .int .i64 c9) rfl rfl rfl rfl rfl ?_
    refine RD.idxT (c := TRule.c) (x := (l0.getD c9.toNat default)) rfl rfl rfl (by first | exact wrap_u64_nonneg _ | exact wrap_u32_nonneg _ | omega | exact F28_slices_IndexFunc_lt (by assumption) (by assumption) | exact F47_slices_IndexFunc_lt (by assumption) (by assumption) | ((try simp only [decide_eq_true_eq, decide_eq_false_iff_not, Bool.not_eq_true, Bool.not_eq_false] at *); first | omega | (rw [wrap64_of (by omega) (by omega)]; omega) | (unfold min_ max_; (repeat' split) <;> first | omega | (rw [wrap64_of (by omega) (by omega)]; omega)))) (getD_at (by first | exact wrap_u64_nonneg _ | exact wrap_u32_nonneg _ | omega | exact F28_slices_IndexFunc_lt (by assumption) (by assumption) | exact F47_slices_IndexFunc_lt (by assumption) (by assumption) | ((try simp only [decide_eq_true_eq, decide_eq_false_iff_not, Bool.not_eq_true, Bool.not_eq_false] at *); first | omega | (rw [wrap64_of (by omega) (by omega)]; omega) | (unfold min_ max_; (repeat' split) <;> first | omega | (rw [wrap64_of (by omega) (by omega)]; omega))))) ?_
    refine RD.pure (v' := .rptr [.int .i64 ((l0.getD c9.toNat default).Seq), .bool ((l0.getD c9.toNat default).Permit), .int .u32 (((l0.getD c9.toNat default).P).A), .int .i64 (((l0.getD c9.toNat default).P).N), .int .i64 ((l0.getD c9.toNat default).Ge), .int .i64 ((l0.getD c9.toNat default).Le)]) rfl rfl rfl rfl rfl ?_
    refine RD.pure (v' := .int .i64 ((l0.getD c9.toNat default).Seq)) rfl rfl rfl rfl rfl ?_
    refine RD.pure (v' := .bool ((l0.getD c9.toNat default).Permit)) rfl rfl rfl rfl rfl ?_
    refine RD.pure (v' := .int .i64 ((l0.getD c9.toNat default).Seq)) rfl rfl rfl rfl rfl ?_
    refine RD.done rfl ?_
    refine WK.ret ?_
    subst hR
    exact RetQ.fr [] (.inr rfl) rfl rfl rfl rfl
  · rw [hb1]; try simp only [hb1, cond_true, cond_false, Bool.true_and, Bool.false_and, Bool.true_or, Bool.false_or, Bool.not_true, Bool.not_false] at hR
    refine WK.condT rfl ?_
    refine WK.seq ?_
    refine WK.regx mixed ?_
    refine GX.pure (v' := .bool false) rfl rfl rfl rfl rfl ?_
    refine GX.pure (v' := .int .i64 0) rfl rfl rfl rfl rfl ?_
    refine GX.done ?_
    refine WK.ret ?_
    subst hR
    exact RetQ.fr [] (.inr rfl) rfl rfl rfl rfl

theorem f50_ok (s0 : List Int) (v1 : Int) (R : Int) (hR : F50_slices_Index s0 v1 = R) : FnOk Try.prog 50 [.ro 1 (s0.map c_u32), .int .u32 v1] [] 0 (.int .i64 R) [] 0 := by
  refine FnOk.wk i50 rfl rfl ?_
  unfold F50_slices_Index at hR
  change WK _ _ _ [ac50] _ ⟨[(0, .ro 1 (s0.map c_u32)), (1, .int .u32 v1)], [], 0⟩
  unfold ac50
  refine WK.seq ?_
  refine WK.regx mixed ?_
  refine GX.pure (v' := .int .i64 0) rfl rfl rfl rfl rfl ?_
  refine GX.done ?_
  refine WK.seq ?_
  refine WK.seq ?_
  refine WK.regx mixed ?_
  refine GX.pure (v' := .ro 1 (s0.map c_u32)) rfl rfl rfl rfl rfl ?_
  refine GX.pure (v' := .int .i64 (s0.length : Int)) rfl rfl rfl rfl (len_map _ _) ?_
  refine GX.pure (v' := .int .i64 0) rfl rfl rfl rfl rfl ?_
  refine GX.done ?_
  refine WK.len (t := 0) rfl (by simp) (fun hlen_1 => ?_)
  rw [List.length_map] at hlen_1
  generalize hZ_1 : F50_slices_Index_l1 v1 0 s0 = Z_1 at hR
  refine WK.forK (fun k s => ∃ (i8 : Nat), i8 ≤ s0.length ∧ k = s0.length - i8 ∧ F50_slices_Index_l1 v1 i8 (s0.drop i8) = Z_1 ∧ s = ⟨[(0, .ro 1 (s0.map c_u32)), (1, .int .u32 v1), (7, .int .i64 (s0.length : Int)), (8, .int .i64 (i8 : Int))], [], 0⟩) s0.length ⟨⟨[(0, .ro 1 (s0.map c_u32)), (1, .int .u32 v1), (7, .int .i64 (s0.length : Int)), (8, .int .i64 (0 : Int))], [], 0⟩, Conv.keep [] [] [0, 1, 7, 8] rfl rfl (viewE_cons rfl rfl (viewE_cons rfl rfl (viewE_cons rfl rfl (viewE_cons rfl rfl viewE_nil)))) rfl rfl, 0, (by first | omega | ((try simp only [List.length_append, List.length_cons, List.length_nil] at *) <;> omega) | (have hlf := may03_len (by assumption) (by assumption); omega)), rfl, hZ_1, rfl⟩ ?_
  rintro _ _ ⟨i8, hi_1, rfl, hL_1, rfl⟩ again_1 out_1 Q_1 hagain_1 hout_1 hQ_1
  refine WK.seq ?_
  refine WK.regx mixed ?_
  refine GX.pure (v' := .bool (decide ((i8 : Int) < (s0.length : Int)))) rfl rfl rfl rfl rfl ?_
  refine GX.done ?_
  refine WK.seq ?_
  rcases bool_two (decide ((i8 : Int) < (s0.length : Int))) with hb2 | hb2
  · rw [hb2]
    rw [drop_end hb2, F50_slices_Index_l1] at hL_1
    refine WK.condF rfl ?_
    refine WK.exit ?_
    refine QF.exit (hout_1 _ ?_)
    subst hL_1
    try dsimp only [cond_true, cond_false] at hR
    refine WK.seq ?_
    refine WK.regx mixed ?_
    refine GX.pure (v' := .int .i64 (-1)) rfl rfl rfl rfl rfl ?_
    refine GX.done ?_
    refine WK.ret ?_
    subst hR
    exact RetQ.fr [] (.inr rfl) rfl rfl rfl rfl
  · rw [hb2]
    obtain ⟨x8, hx1, hd1, hlt1⟩ := drop_more hb2
    rw [hd1, F50_slices_Index_l1] at hL_1
    refine WK.condT rfl ?_
    refine WK.skip ?_
    refine WK.seq ?_
    refine WK.blockK (fun _ hK3 => ?_)
    refine WK.seq ?_
    refine WK.regx mixed ?_
    refine GX.pure (v' := .int .i64 (i8 : Int)) rfl rfl rfl rfl rfl ?_
    refine GX.pure (v' := .int .i64 (i8 : Int)) rfl rfl rfl rfl rfl ?_
    refine GX.done ?_
    refine WK.seq ?_
    refine WK.regx mixed ?_
    refine GX.pure (v' := .int .u32 v1) rfl rfl rfl rfl rfl ?_
    refine GX.pure (v' := .ro 1 (s0.map c_u32)) rfl rfl rfl rfl rfl ?_
    refine GX.pure (v' := .int .i64 (i8 : Int)) rfl rfl rfl rfl rfl ?_
    refine GX.idxT (c := c_u32) (x := x8) rfl rfl rfl (Int.natCast_nonneg _) hx1 ?_
    refine GX.pure (v' := .int .u32 x8) rfl rfl rfl rfl rfl ?_
    refine GX.pure (v' := .bool (decide (v1 = x8))) rfl rfl rfl rfl rfl ?_
    refine GX.done ?_
    rcases bool_two (decide (v1 = x8)) with hb4 | hb4
    · rw [hb4]; try simp only [hb4, cond_true, cond_false, Bool.true_and, Bool.false_and, Bool.true_or, Bool.false_or, Bool.not_true, Bool.not_false] at hL_1
      refine WK.condF rfl ?_
      refine WK.skip ?_
      refine WK.nil (QF.normal (hK3 _ ?_))
      refine WK.regx mixed ?_
      refine GX.pure (v' := .int .i64 ((i8 + 1 : Nat) : Int)) rfl rfl rfl rfl (congrArg (PVal.int .i64) (wrap_up hlt1 hlen_1)) ?_
      refine GX.pure (v' := .int .i64 ((i8 + 1 : Nat) : Int)) rfl rfl rfl rfl rfl ?_
      refine GX.done ?_
      refine WK.nil (QF.normal ?_)
      exact hagain_1 _ (s0.length - (i8 + 1)) ⟨[(0, .ro 1 (s0.map c_u32)), (1, .int .u32 v1), (7, .int .i64 (s0.length : Int)), (8, .int .i64 ((i8 + 1) : Int))], [], 0⟩ (by first | omega | ((try simp only [List.length_append, List.length_cons, List.length_nil] at *) <;> omega) | (have hlf := may03_len (by assumption) (by assumption); omega)) (Conv.keep [] [] [0, 1, 7, 8] rfl rfl (viewE_cons rfl rfl (viewE_cons rfl rfl (viewE_cons rfl rfl (viewE_cons rfl rfl viewE_nil)))) rfl rfl) ⟨i8 + 1, (by first | omega | ((try simp only [List.length_append, List.length_cons, List.length_nil] at *) <;> omega) | (have hlf := may03_len (by assumption) (by assumption); omega)), rfl, hL_1, rfl⟩
    · rw [hb4]; try simp only [hb4, cond_true, cond_false, Bool.true_and, Bool.false_and, Bool.true_or, Bool.false_or, Bool.not_true, Bool.not_false] at hL_1
      refine WK.condT rfl ?_
      refine WK.seq ?_
      refine WK.regx mixed ?_
      refine GX.pure (v' := .int .i64 (i8 : Int)) rfl rfl rfl rfl rfl ?_
      refine GX.pure (v' := .int .i64 (i8 : Int)) rfl rfl rfl rfl rfl ?_
      refine GX.done ?_
      refine WK.ret ?_
      refine QF.ret ?_
      refine QF.ret (hQ_1 _ _ ?_)
      subst hL_1
      subst hR
      exact RetQ.fr [] (.inr rfl) rfl rfl rfl rfl

end Go.Proofs.Ytagiapphmkdnmaa.Abs
