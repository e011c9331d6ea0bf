/- The functions walked: each computes its Lean function (printed by this work's own program gen.py). -/
import Derived.Test.YtpcpclbdajebjaaSz
set_option linter.unusedVariables false
set_option linter.unusedSimpArgs false
set_option maxRecDepth 10000
set_option maxHeartbeats 4000000
namespace Go.Proofs.Ytpcpclbdajebjaa.Abs
open Go

theorem f37_ok (vals0 : List Int) (R : Int) (hR : F37_cmp_Or vals0 = R) : FnOk Try.prog 37 [.ro 1 (vals0.map c_i64)] [] 0 (.int .i64 R) [] 0 := by
 refine FnOk.wk i37 rfl rfl ?_
 unfold F37_cmp_Or at hR
 change WK _ _ _ [ac37] _ ⟨[(0, .ro 1 (vals0.map c_i64))], [], 0⟩
 unfold ac37
 refine WK.sr mixed ?_
 refine GX.m rfl ?_
 refine GX.done ?_
 refine WK.sr mixed ?_
 refine GX.m rfl ?_
 refine GX.done ?_
 refine WK.seq ?_
 refine WK.sr mixed ?_
 refine GX.m rfl ?_
 refine GX.pure (v' := .int .i64 (vals0.length : Int)) rfl rfl rfl rfl (len_map _ _) ?_
 refine GX.m rfl ?_
 refine GX.done ?_
 refine WK.len (t := 0) rfl (by simp) (fun hlen_1 => ?_)
 rw [List.length_map] at hlen_1
 generalize hZ_1 : F37_cmp_Or_l1 vals0 = Z_1 at hR
 refine WK.forK (fun k s => ∃ (i8 : Nat), i8 ≤ vals0.length ∧ k = vals0.length - i8 ∧ F37_cmp_Or_l1 (vals0.drop i8) = Z_1 ∧ s = ⟨[(3, .int .i64 0), (6, .ro 1 (vals0.map c_i64)), (7, .int .i64 (vals0.length : Int)), (8, .int .i64 (i8 : Int))], [], 0⟩) vals0.length ⟨⟨[(3, .int .i64 0), (6, .ro 1 (vals0.map c_i64)), (7, .int .i64 (vals0.length : Int)), (8, .int .i64 (0 : Int))], [], 0⟩, Conv.keep [] [] [3, 6, 7, 8] rfl rfl (viewE_cons rfl rfl (viewE_cons rfl rfl (viewE_cons rfl rfl (viewE_cons rfl rfl viewE_nil)))) rfl rfl, 0, (by omega), rfl, hZ_1, rfl⟩ ?_
 rintro _ _ ⟨i8, hi_1, rfl, hL_1, rfl⟩ again_1 out_1 Q_1 hagain_1 hout_1 hQ_1
 refine WK.sr mixed ?_
 refine GX.q (.bool (decide ((i8 : Int) < (vals0.length : Int)))) ?_
 refine GX.done ?_
 refine WK.seq ?_
 rcases bool_two (decide ((i8 : Int) < (vals0.length : Int))) with hb2 | hb2
 ·rw [hb2]
  rw [drop_end hb2, F37_cmp_Or_l1] at hL_1
  refine WK.condF rfl ?_
  refine WK.exit ?_
  refine QF.exit (hout_1 _ ?_)
  subst hL_1
  try dsimp only [cond_true, cond_false] at hR
  refine WK.sr mixed ?_
  iterate 2 refine GX.m rfl ?_
  refine GX.done ?_
  refine WK.ret ?_
  subst hR
  exact RetQ.fr [] (.inr rfl) rfl rfl rfl rfl
 ·rw [hb2]
  obtain ⟨x8, hx1, hd1, hlt1⟩ := drop_more hb2
  rw [hd1, F37_cmp_Or_l1] at hL_1
  refine WK.condT rfl ?_
  refine WK.skip ?_
  refine WK.seq ?_
  refine WK.blockK (fun _ hK3 => ?_)
  refine WK.sr mixed ?_
  refine GX.idxT (c := c_i64) (x := x8) rfl rfl rfl (Int.natCast_nonneg _) hx1 ?_
  refine GX.q (.int .i64 x8) ?_
  refine GX.m rfl ?_
  refine GX.done ?_
  refine WK.sr mixed ?_
  iterate 2 refine GX.m rfl ?_
  refine GX.q (.bool (!decide (x8 = 0))) ?_
  refine GX.done ?_
  rcases bool_two (decide (x8 = 0)) with hb4 | hb4
  ·rw [hb4]; try simp only [hb4, bb] at hL_1
   refine WK.condT rfl ?_
   refine WK.sr mixed ?_
   iterate 2 refine GX.m rfl ?_
   refine GX.done ?_
   refine WK.ret ?_
   refine QF.ret ?_
   refine QF.ret (hQ_1 _ _ ?_)
   subst hL_1
   subst hR
   exact RetQ.fr [] (.inr rfl) rfl rfl rfl rfl
  ·rw [hb4]; try simp only [hb4, bb] at hL_1
   refine WK.condF rfl ?_
   refine WK.skip ?_
   refine WK.nil (QF.normal (hK3 _ ?_))
   refine WK.regx mixed ?_
   refine GX.pure (v' := .int .i64 ((i8 + 1 : Nat) : Int)) rfl rfl rfl rfl (congrArg (PVal.int .i64) (wrap_up hlt1 hlen_1)) ?_
   refine GX.m rfl ?_
   refine GX.done ?_
   refine WK.nil (QF.normal ?_)
   exact hagain_1 _ (vals0.length - (i8 + 1)) ⟨[(3, .int .i64 0), (6, .ro 1 (vals0.map c_i64)), (7, .int .i64 (vals0.length : Int)), (8, .int .i64 ((i8 + 1) : Int))], [], 0⟩ (by omega) (Conv.keep [] [] [3, 6, 7, 8] rfl rfl (viewE_cons rfl rfl (viewE_cons rfl rfl (viewE_cons rfl rfl (viewE_cons rfl rfl viewE_nil)))) rfl rfl) ⟨i8 + 1, (by omega), rfl, hL_1, rfl⟩

theorem f58_ok (x0 : Int) (R : Bool) (hR : F58_cmp_isNaN x0 = R) : FnOk Try.prog 58 [.int .u32 x0] [] 0 (.bool R) [] 0 := by
 refine FnOk.wk i58 rfl rfl ?_
 unfold F58_cmp_isNaN at hR
 change WK _ _ _ [ac58] _ ⟨[(0, .int .u32 x0)], [], 0⟩
 unfold ac58
 refine WK.sr mixed ?_
 refine GX.m rfl ?_
 refine GX.done ?_
 refine WK.sr mixed ?_
 iterate 2 refine GX.m rfl ?_
 refine GX.q (.bool (!decide (x0 = x0))) ?_
 refine GX.m rfl ?_
 refine GX.done ?_
 refine WK.ret ?_
 subst hR
 exact RetQ.fr [] (.inr rfl) rfl rfl rfl rfl

theorem f38_ok (x0 : Int) (y1 : Int) (R : Int) (hR : F38_cmp_Compare x0 y1 = R) : FnOk Try.prog 38 [.int .u32 x0, .int .u32 y1] [] 0 (.int .i64 R) [] 0 := by
 refine FnOk.wk i38 rfl rfl ?_
 unfold F38_cmp_Compare at hR
 change WK _ _ _ [ac38] _ ⟨[(0, .int .u32 x0), (1, .int .u32 y1)], [], 0⟩
 unfold ac38
 refine WK.sr mixed ?_
 refine GX.m rfl ?_
 refine GX.done ?_
 refine WK.sr mixed ?_
 refine GX.m rfl ?_
 generalize hc8 : F58_cmp_isNaN x0 = c8 at hR
 try dsimp only at hR
 refine GX.callp (r := .bool c8) rfl rfl rfl (f58_ok x0 _ hc8) rfl rfl ?_
 refine GX.m rfl ?_
 refine GX.done ?_
 refine WK.sr mixed ?_
 refine GX.m rfl ?_
 generalize hc10 : F58_cmp_isNaN y1 = c10 at hR
 try dsimp only at hR
 refine GX.callp (r := .bool c10) rfl rfl rfl (f58_ok y1 _ hc10) rfl rfl ?_
 refine GX.m rfl ?_
 refine GX.done ?_
 refine WK.seq ?_
 refine WK.sr mixed ?_
 refine GX.m rfl ?_
 refine GX.done ?_
 rcases bool_two (c8) with hb1 | hb1
 ·rw [hb1]; try simp only [hb1, bb] at hR
  refine WK.condF rfl ?_
  refine WK.skip ?_
  refine WK.seq ?_
  refine WK.sr mixed ?_
  refine GX.m rfl ?_
  refine GX.done ?_
  rcases bool_two (c10) with hb2 | hb2
  ·rw [hb2]; try simp only [hb2, bb] at hR
   refine WK.condF rfl ?_
   refine WK.skip ?_
   refine WK.seq ?_
   refine WK.sr mixed ?_
   iterate 2 refine GX.m rfl ?_
   refine GX.q (.bool (decide (x0 < y1))) ?_
   refine GX.done ?_
   rcases bool_two (decide (x0 < y1)) with hb3 | hb3
   ·rw [hb3]; try simp only [hb3, bb] at hR
    refine WK.condF rfl ?_
    refine WK.skip ?_
    refine WK.seq ?_
    refine WK.sr mixed ?_
    iterate 2 refine GX.m rfl ?_
    refine GX.q (.bool (decide (y1 < x0))) ?_
    refine GX.done ?_
    rcases bool_two (decide (y1 < x0)) with hb4 | hb4
    ·rw [hb4]; try simp only [hb4, bb] at hR
     refine WK.condF rfl ?_
     refine WK.skip ?_
     refine WK.sr mixed ?_
     refine GX.m rfl ?_
     refine GX.done ?_
     refine WK.ret ?_
     subst hR
     exact RetQ.fr [] (.inr rfl) rfl rfl rfl rfl
    ·rw [hb4]; try simp only [hb4, bb] at hR
     refine WK.condT rfl ?_
     refine WK.sr mixed ?_
     refine GX.m rfl ?_
     refine GX.done ?_
     refine WK.ret ?_
     subst hR
     exact RetQ.fr [] (.inr rfl) rfl rfl rfl rfl
   ·rw [hb3]; try simp only [hb3, bb] at hR
    refine WK.condT rfl ?_
    refine WK.sr mixed ?_
    refine GX.m rfl ?_
    refine GX.done ?_
    refine WK.ret ?_
    subst hR
    exact RetQ.fr [] (.inr rfl) rfl rfl rfl rfl
  ·rw [hb2]; try simp only [hb2, bb] at hR
   refine WK.condT rfl ?_
   refine WK.sr mixed ?_
   refine GX.m rfl ?_
   refine GX.done ?_
   refine WK.ret ?_
   subst hR
   exact RetQ.fr [] (.inr rfl) rfl rfl rfl rfl
 ·rw [hb1]; try simp only [hb1, bb] at hR
  refine WK.condT rfl ?_
  refine WK.seq ?_
  refine WK.sr mixed ?_
  refine GX.m rfl ?_
  refine GX.done ?_
  rcases bool_two (c10) with hb5 | hb5
  ·rw [hb5]; try simp only [hb5, bb] at hR
   refine WK.condF rfl ?_
   refine WK.skip ?_
   refine WK.sr mixed ?_
   refine GX.m rfl ?_
   refine GX.done ?_
   refine WK.ret ?_
   subst hR
   exact RetQ.fr [] (.inr rfl) rfl rfl rfl rfl
  ·rw [hb5]; try simp only [hb5, bb] at hR
   refine WK.condT rfl ?_
   refine WK.sr mixed ?_
   refine GX.m rfl ?_
   refine GX.done ?_
   refine WK.ret ?_
   subst hR
   exact RetQ.fr [] (.inr rfl) rfl rfl rfl rfl

theorem f39_ok (x0 : TEntry) (R : Int) (hR : F39_link_over x0 = R) : FnOk Try.prog 39 [.agg (TEntry.c x0)] [] 0 (.int .i64 R) [] 0 := by
 refine FnOk.wk i39 rfl rfl ?_
 unfold F39_link_over at hR
 change WK _ _ _ [ac39] _ ⟨[(0, .agg (TEntry.c x0))], [], 0⟩
 unfold ac39
 refine WK.sr mixed ?_
 refine GX.step (v' := .ptr 0 0) (heap' := [(0, .box (TEntry.c x0))]) (next' := 1) rfl rfl rfl rfl rfl rfl rfl ?_
 refine GX.m rfl ?_
 refine GX.done ?_
 refine WK.seq ?_
 refine WK.sr mixed ?_
 refine GX.q (.ptr 0 0) ?_
 refine GX.q (.int .i64 x0.Life) ?_
 refine GX.q (.bool (decide (x0.Life = 0))) ?_
 refine GX.done ?_
 rcases bool_two (decide (x0.Life = 0)) with hb1 | hb1
 ·rw [hb1]; try simp only [hb1, bb] at hR
  refine WK.condF rfl ?_
  refine WK.skip ?_
  refine WK.sr mixed ?_
  refine GX.m rfl ?_
  refine GX.done ?_
  refine WK.ret ?_
  subst hR
  exact RetQ.fr [] (.inr rfl) rfl rfl rfl rfl
 ·rw [hb1]; try simp only [hb1, bb] at hR
  refine WK.condT rfl ?_
  refine WK.sr mixed ?_
  refine GX.m rfl ?_
  refine GX.done ?_
  refine WK.ret ?_
  subst hR
  exact RetQ.fr [] (.inr rfl) rfl rfl rfl rfl

theorem f59_ok (x0 : Int) (R : Bool) (hR : F59_cmp_isNaN x0 = R) : FnOk Try.prog 59 [.int .i64 x0] [] 0 (.bool R) [] 0 := by
 refine FnOk.wk i59 rfl rfl ?_
 unfold F59_cmp_isNaN at hR
 change WK _ _ _ [ac59] _ ⟨[(0, .int .i64 x0)], [], 0⟩
 unfold ac59
 refine WK.sr mixed ?_
 refine GX.m rfl ?_
 refine GX.done ?_
 refine WK.sr mixed ?_
 iterate 2 refine GX.m rfl ?_
 refine GX.q (.bool (!decide (x0 = x0))) ?_
 refine GX.m rfl ?_
 refine GX.done ?_
 refine WK.ret ?_
 subst hR
 exact RetQ.fr [] (.inr rfl) rfl rfl rfl rfl

theorem f40_ok (x0 : Int) (y1 : Int) (R : Int) (hR : F40_cmp_Compare x0 y1 = R) : FnOk Try.prog 40 [.int .i64 x0, .int .i64 y1] [] 0 (.int .i64 R) [] 0 := by
 refine FnOk.wk i40 rfl rfl ?_
 unfold F40_cmp_Compare at hR
 change WK _ _ _ [ac40] _ ⟨[(0, .int .i64 x0), (1, .int .i64 y1)], [], 0⟩
 unfold ac40
 refine WK.sr mixed ?_
 refine GX.m rfl ?_
 refine GX.done ?_
 refine WK.sr mixed ?_
 refine GX.m rfl ?_
 generalize hc8 : F59_cmp_isNaN x0 = c8 at hR
 try dsimp only at hR
 refine GX.callp (r := .bool c8) rfl rfl rfl (f59_ok x0 _ hc8) rfl rfl ?_
 refine GX.m rfl ?_
 refine GX.done ?_
 refine WK.sr mixed ?_
 refine GX.m rfl ?_
 generalize hc10 : F59_cmp_isNaN y1 = c10 at hR
 try dsimp only at hR
 refine GX.callp (r := .bool c10) rfl rfl rfl (f59_ok y1 _ hc10) rfl rfl ?_
 refine GX.m rfl ?_
 refine GX.done ?_
 refine WK.seq ?_
 refine WK.sr mixed ?_
 refine GX.m rfl ?_
 refine GX.done ?_
 rcases bool_two (c8) with hb1 | hb1
 ·rw [hb1]; try simp only [hb1, bb] at hR
  refine WK.condF rfl ?_
  refine WK.skip ?_
  refine WK.seq ?_
  refine WK.sr mixed ?_
  refine GX.m rfl ?_
  refine GX.done ?_
  rcases bool_two (c10) with hb2 | hb2
  ·rw [hb2]; try simp only [hb2, bb] at hR
   refine WK.condF rfl ?_
   refine WK.skip ?_
   refine WK.seq ?_
   refine WK.sr mixed ?_
   iterate 2 refine GX.m rfl ?_
   refine GX.q (.bool (decide (x0 < y1))) ?_
   refine GX.done ?_
   rcases bool_two (decide (x0 < y1)) with hb3 | hb3
   ·rw [hb3]; try simp only [hb3, bb] at hR
    refine WK.condF rfl ?_
    refine WK.skip ?_
    refine WK.seq ?_
    refine WK.sr mixed ?_
    iterate 2 refine GX.m rfl ?_
    refine GX.q (.bool (decide (y1 < x0))) ?_
    refine GX.done ?_
    rcases bool_two (decide (y1 < x0)) with hb4 | hb4
    ·rw [hb4]; try simp only [hb4, bb] at hR
     refine WK.condF rfl ?_
     refine WK.skip ?_
     refine WK.sr mixed ?_
     refine GX.m rfl ?_
     refine GX.done ?_
     refine WK.ret ?_
     subst hR
     exact RetQ.fr [] (.inr rfl) rfl rfl rfl rfl
    ·rw [hb4]; try simp only [hb4, bb] at hR
     refine WK.condT rfl ?_
     refine WK.sr mixed ?_
     refine GX.m rfl ?_
     refine GX.done ?_
     refine WK.ret ?_
     subst hR
     exact RetQ.fr [] (.inr rfl) rfl rfl rfl rfl
   ·rw [hb3]; try simp only [hb3, bb] at hR
    refine WK.condT rfl ?_
    refine WK.sr mixed ?_
    refine GX.m rfl ?_
    refine GX.done ?_
    refine WK.ret ?_
    subst hR
    exact RetQ.fr [] (.inr rfl) rfl rfl rfl rfl
  ·rw [hb2]; try simp only [hb2, bb] at hR
   refine WK.condT rfl ?_
   refine WK.sr mixed ?_
   refine GX.m rfl ?_
   refine GX.done ?_
   refine WK.ret ?_
   subst hR
   exact RetQ.fr [] (.inr rfl) rfl rfl rfl rfl
 ·rw [hb1]; try simp only [hb1, bb] at hR
  refine WK.condT rfl ?_
  refine WK.seq ?_
  refine WK.sr mixed ?_
  refine GX.m rfl ?_
  refine GX.done ?_
  rcases bool_two (c10) with hb5 | hb5
  ·rw [hb5]; try simp only [hb5, bb] at hR
   refine WK.condF rfl ?_
   refine WK.skip ?_
   refine WK.sr mixed ?_
   refine GX.m rfl ?_
   refine GX.done ?_
   refine WK.ret ?_
   subst hR
   exact RetQ.fr [] (.inr rfl) rfl rfl rfl rfl
  ·rw [hb5]; try simp only [hb5, bb] at hR
   refine WK.condT rfl ?_
   refine WK.sr mixed ?_
   refine GX.m rfl ?_
   refine GX.done ?_
   refine WK.ret ?_
   subst hR
   exact RetQ.fr [] (.inr rfl) rfl rfl rfl rfl

theorem f8_ok (a0 : TEntry) (b1 : TEntry) (R : Int) (hR : F8_link_Compare a0 b1 = R) : FnOk Try.prog 8 [.agg (TEntry.c a0), .agg (TEntry.c b1)] [] 0 (.int .i64 R) [] 0 := by
 refine FnOk.wk i8 rfl rfl ?_
 unfold F8_link_Compare at hR
 change WK _ _ _ [ac8] _ ⟨[(0, .agg (TEntry.c a0)), (1, .agg (TEntry.c b1))], [], 0⟩
 unfold ac8
 refine WK.sr mixed ?_
 refine GX.step (v' := .ptr 0 0) (heap' := [(0, .box (TEntry.c a0))]) (next' := 1) rfl rfl rfl rfl rfl rfl rfl ?_
 refine GX.step (v' := .ptr 1 0) (heap' := [(0, .box (TEntry.c a0)), (1, .box (TEntry.c b1))]) (next' := 2) rfl rfl rfl rfl rfl rfl rfl ?_
 refine GX.m rfl ?_
 refine GX.done ?_
 refine WK.seq ?_
 refine WK.drawn mixed ?_
 refine RD.q (.ptr 0 2) ?_
 refine RD.q (.int .u32 a0.Seq) ?_
 refine RD.q (.ptr 1 2) ?_
 refine RD.q (.int .u32 b1.Seq) ?_
 generalize hc9 : F38_cmp_Compare a0.Seq b1.Seq = c9 at hR
 try dsimp only at hR
 refine RD.callp (r := .int .i64 c9) rfl rfl rfl (f38_ok a0.Seq b1.Seq _ hc9) rfl rfl ?_
 refine RD.q (.agg (TEntry.c a0)) ?_
 generalize hc11 : F39_link_over a0 = c11 at hR
 try dsimp only at hR
 refine RD.callp (r := .int .i64 c11) rfl rfl rfl (f39_ok a0 _ hc11) rfl rfl ?_
 refine RD.q (.agg (TEntry.c b1)) ?_
 generalize hc13 : F39_link_over b1 = c13 at hR
 try dsimp only at hR
 refine RD.callp (r := .int .i64 c13) rfl rfl rfl (f39_ok b1 _ hc13) rfl rfl ?_
 refine RD.q (.int .i64 (IntKind.i64.wrap (c11 - c13))) ?_
 refine RD.q (.ptr 0 3) ?_
 refine RD.q (.int .i64 a0.Sum) ?_
 refine RD.q (.ptr 1 3) ?_
 refine RD.q (.int .i64 b1.Sum) ?_
 generalize hc19 : F40_cmp_Compare a0.Sum b1.Sum = c19 at hR
 try dsimp only at hR
 refine RD.callp (r := .int .i64 c19) rfl rfl rfl (f40_ok a0.Sum b1.Sum _ hc19) rfl rfl ?_
 refine RD.step (v' := .own 2 1 0 (([c9, IntKind.i64.wrap (c11 - c13), c19] : List Int)).length) (heap' := [(0, .box (TEntry.c a0)), (1, .box (TEntry.c b1)), (2, .row 1 3 (([c9, IntKind.i64.wrap (c11 - c13), c19] : List Int).map c_i64))]) (next' := 3) rfl rfl rfl rfl rfl rfl rfl ?_
 generalize hc21 : F37_cmp_Or ([c9, IntKind.i64.wrap (c11 - c13), c19] : List Int) = c21 at hR
 try dsimp only at hR
 refine RD.callbp (r := .int .i64 c21) [2] rfl rfl rfl (viewGo_cons (view_rowT rfl rfl) viewGo_nil) (f37_ok ([c9, IntKind.i64.wrap (c11 - c13), c19] : List Int) _ hc21) rfl rfl ?_
 refine RD.m rfl ?_
 refine RD.done rfl ?_
 refine WK.ret ?_
 subst hR
 exact RetQ.fr [] (.inr rfl) rfl rfl rfl rfl

theorem f41_ok (is0 : Bool) (R : Int) (hR : F41_crossroadsref23_more is0 = R) : FnOk Try.prog 41 [.bool is0] [] 0 (.int .i64 R) [] 0 := by
 refine FnOk.wk i41 rfl rfl ?_
 unfold F41_crossroadsref23_more at hR
 change WK _ _ _ [ac41] _ ⟨[(0, .bool is0)], [], 0⟩
 unfold ac41
 refine WK.sr mixed ?_
 refine GX.m rfl ?_
 refine GX.done ?_
 refine WK.seq ?_
 refine WK.sr mixed ?_
 refine GX.m rfl ?_
 refine GX.done ?_
 rcases bool_two (is0) with hb1 | hb1
 ·rw [hb1]; try simp only [hb1, bb] at hR
  refine WK.condF rfl ?_
  refine WK.skip ?_
  refine WK.sr mixed ?_
  refine GX.m rfl ?_
  refine GX.done ?_
  refine WK.ret ?_
  subst hR
  exact RetQ.fr [] (.inr rfl) rfl rfl rfl rfl
 ·rw [hb1]; try simp only [hb1, bb] at hR
  refine WK.condT rfl ?_
  refine WK.sr mixed ?_
  refine GX.m rfl ?_
  refine GX.done ?_
  refine WK.ret ?_
  subst hR
  exact RetQ.fr [] (.inr rfl) rfl rfl rfl rfl

theorem f9_ok (a0 : TEntry) (b1 : TEntry) (R : Int) (hR : F9_crossroadsref23_Compare a0 b1 = R) : FnOk Try.prog 9 [.agg (TEntry.c a0), .agg (TEntry.c b1)] [] 0 (.int .i64 R) [] 0 := by
 refine FnOk.wk i9 rfl rfl ?_
 unfold F9_crossroadsref23_Compare at hR
 change WK _ _ _ [ac9] _ ⟨[(0, .agg (TEntry.c a0)), (1, .agg (TEntry.c b1))], [], 0⟩
 unfold ac9
 refine WK.sr mixed ?_
 refine GX.step (v' := .ptr 0 0) (heap' := [(0, .box (TEntry.c a0))]) (next' := 1) rfl rfl rfl rfl rfl rfl rfl ?_
 refine GX.step (v' := .ptr 1 0) (heap' := [(0, .box (TEntry.c a0)), (1, .box (TEntry.c b1))]) (next' := 2) rfl rfl rfl rfl rfl rfl rfl ?_
 refine GX.m rfl ?_
 refine GX.done ?_
 refine WK.seq ?_
 refine WK.sr mixed ?_
 refine GX.q (.ptr 0 2) ?_
 refine GX.q (.int .u32 a0.Seq) ?_
 refine GX.q (.ptr 1 2) ?_
 refine GX.q (.int .u32 b1.Seq) ?_
 refine GX.q (.bool (!decide (a0.Seq = b1.Seq))) ?_
 refine GX.done ?_
 rcases bool_two (decide (a0.Seq = b1.Seq)) with hb1 | hb1
 ·rw [hb1]; try simp only [hb1, bb] at hR
  refine WK.condT rfl ?_
  refine WK.sr mixed ?_
  refine GX.q (.ptr 0 2) ?_
  refine GX.q (.int .u32 a0.Seq) ?_
  refine GX.q (.ptr 1 2) ?_
  refine GX.q (.int .u32 b1.Seq) ?_
  refine GX.q (.bool (decide (b1.Seq < a0.Seq))) ?_
  generalize hc15 : F41_crossroadsref23_more (decide (b1.Seq < a0.Seq)) = c15 at hR
  try dsimp only at hR
  refine GX.callp (r := .int .i64 c15) rfl rfl rfl (f41_ok (decide (b1.Seq < a0.Seq)) _ hc15) rfl rfl ?_
  refine GX.m rfl ?_
  refine GX.done ?_
  refine WK.ret ?_
  subst hR
  exact RetQ.fr [] (.inr rfl) rfl rfl rfl rfl
 ·rw [hb1]; try simp only [hb1, bb] at hR
  refine WK.condF rfl ?_
  refine WK.skip ?_
  refine WK.seq ?_
  refine WK.sr mixed ?_
  refine GX.q (.ptr 0 0) ?_
  refine GX.q (.int .i64 a0.Life) ?_
  refine GX.q (.bool (decide (a0.Life = 0))) ?_
  refine GX.q (.ptr 1 0) ?_
  refine GX.q (.int .i64 b1.Life) ?_
  refine GX.q (.bool (decide (b1.Life = 0))) ?_
  refine GX.q (.bool (!((decide (a0.Life = 0)) == (decide (b1.Life = 0))))) ?_
  refine GX.done ?_
  rcases bool_two ((decide (a0.Life = 0)) == (decide (b1.Life = 0))) with hb2 | hb2
  ·rw [hb2]; try simp only [hb2, bb] at hR
   refine WK.condT rfl ?_
   refine WK.sr mixed ?_
   refine GX.q (.ptr 0 0) ?_
   refine GX.q (.int .i64 a0.Life) ?_
   refine GX.q (.bool (decide (a0.Life = 0))) ?_
   generalize hc26 : F41_crossroadsref23_more (decide (a0.Life = 0)) = c26 at hR
   try dsimp only at hR
   refine GX.callp (r := .int .i64 c26) rfl rfl rfl (f41_ok (decide (a0.Life = 0)) _ hc26) rfl rfl ?_
   refine GX.m rfl ?_
   refine GX.done ?_
   refine WK.ret ?_
   subst hR
   exact RetQ.fr [] (.inr rfl) rfl rfl rfl rfl
  ·rw [hb2]; try simp only [hb2, bb] at hR
   refine WK.condF rfl ?_
   refine WK.skip ?_
   refine WK.seq ?_
   refine WK.sr mixed ?_
   refine GX.q (.ptr 0 3) ?_
   refine GX.q (.int .i64 a0.Sum) ?_
   refine GX.q (.ptr 1 3) ?_
   refine GX.q (.int .i64 b1.Sum) ?_
   refine GX.q (.bool (!decide (a0.Sum = b1.Sum))) ?_
   refine GX.done ?_
   rcases bool_two (decide (a0.Sum = b1.Sum)) with hb3 | hb3
   ·rw [hb3]; try simp only [hb3, bb] at hR
    refine WK.condT rfl ?_
    refine WK.sr mixed ?_
    refine GX.q (.ptr 0 3) ?_
    refine GX.q (.int .i64 a0.Sum) ?_
    refine GX.q (.ptr 1 3) ?_
    refine GX.q (.int .i64 b1.Sum) ?_
    refine GX.q (.bool (decide (b1.Sum < a0.Sum))) ?_
    generalize hc37 : F41_crossroadsref23_more (decide (b1.Sum < a0.Sum)) = c37 at hR
    try dsimp only at hR
    refine GX.callp (r := .int .i64 c37) rfl rfl rfl (f41_ok (decide (b1.Sum < a0.Sum)) _ hc37) rfl rfl ?_
    refine GX.m rfl ?_
    refine GX.done ?_
    refine WK.ret ?_
    subst hR
    exact RetQ.fr [] (.inr rfl) rfl rfl rfl rfl
   ·rw [hb3]; try simp only [hb3, bb] at hR
    refine WK.condF rfl ?_
    refine WK.skip ?_
    refine WK.sr mixed ?_
    refine GX.m rfl ?_
    refine GX.done ?_
    refine WK.ret ?_
    subst hR
    exact RetQ.fr [] (.inr rfl) rfl rfl rfl rfl

theorem f10_ok (x0 : TEntry) (R : TEntry) (hR : F10_crossroadslaw23_entry x0 = R) : FnOk Try.prog 10 [.agg (TEntry.c x0)] [] 0 (.agg (TEntry.c R)) [] 0 := by
 refine FnOk.wk i10 rfl rfl ?_
 unfold F10_crossroadslaw23_entry at hR
 change WK _ _ _ [ac10] _ ⟨[(0, .agg (TEntry.c x0))], [], 0⟩
 unfold ac10
 refine WK.sr mixed ?_
 refine GX.step (v' := .ptr 0 0) (heap' := [(0, .box (TEntry.c x0))]) (next' := 1) rfl rfl rfl rfl rfl rfl rfl ?_
 refine GX.step (v' := .ptr 1 0) (heap' := [(0, .box (TEntry.c x0)), (1, .box [.int .i64 0, .int .u64 0, .int .u32 0, .int .i64 0])]) (next' := 2) rfl rfl rfl rfl rfl rfl rfl ?_
 refine GX.done ?_
 refine WK.sr mixed ?_
 refine GX.q (.ptr 0 0) ?_
 refine GX.q (.int .i64 x0.Life) ?_
 refine GX.q (.ptr 0 1) ?_
 refine GX.q (.int .u64 x0.ID) ?_
 refine GX.q (.ptr 0 2) ?_
 refine GX.q (.int .u32 x0.Seq) ?_
 refine GX.q (.ptr 0 3) ?_
 refine GX.q (.int .i64 x0.Sum) ?_
 refine GX.q (.agg (TEntry.c x0)) ?_
 refine GX.step0 (heap' := [(0, .box (TEntry.c x0)), (1, .box (TEntry.c x0))]) (next' := 2) rfl rfl rfl rfl rfl ?_
 refine GX.done ?_
 refine WK.ret ?_
 subst hR
 exact RetQ.fr [] (.inr rfl) rfl rfl rfl rfl

theorem f14_ok (x0 : TLsp) (R : TEntry) (hR : F14_link_Entry x0 = R) : FnOk Try.prog 14 [.agg (TLsp.c x0)] [] 0 (.agg (TEntry.c R)) [] 0 := by
 refine FnOk.wk i14 rfl rfl ?_
 unfold F14_link_Entry at hR
 change WK _ _ _ [ac14] _ ⟨[(0, .agg (TLsp.c x0))], [], 0⟩
 unfold ac14
 refine WK.sr mixed ?_
 refine GX.step (v' := .ptr 0 0) (heap' := [(0, .box (TLsp.c x0))]) (next' := 1) rfl rfl rfl rfl rfl rfl rfl ?_
 refine GX.step (v' := .ptr 1 0) (heap' := [(0, .box (TLsp.c x0)), (1, .box [.int .i64 0, .int .u64 0, .int .u32 0, .int .i64 0])]) (next' := 2) rfl rfl rfl rfl rfl rfl rfl ?_
 refine GX.done ?_
 refine WK.sr mixed ?_
 refine GX.q (.ptr 0 1) ?_
 refine GX.q (.int .i64 x0.Life) ?_
 refine GX.q (.ptr 0 2) ?_
 refine GX.q (.int .u64 x0.ID) ?_
 refine GX.q (.ptr 0 3) ?_
 refine GX.q (.int .u32 x0.Seq) ?_
 refine GX.q (.ptr 0 4) ?_
 refine GX.q (.int .i64 x0.Sum) ?_
 refine GX.q (.agg [.int .i64 x0.Life, .int .u64 x0.ID, .int .u32 x0.Seq, .int .i64 x0.Sum]) ?_
 refine GX.step0 (heap' := [(0, .box (TLsp.c x0)), (1, .box [.int .i64 x0.Life, .int .u64 x0.ID, .int .u32 x0.Seq, .int .i64 x0.Sum])]) (next' := 2) rfl rfl rfl rfl rfl ?_
 refine GX.done ?_
 refine WK.ret ?_
 subst hR
 exact RetQ.fr [] (.inr rfl) rfl rfl rfl rfl

theorem f69_ok (l0 : List TThing) (hp0 : l0.length ≤ 100) (R : (List Int) × Int) (hR : F69_tlv_Put l0 = R) : FnOk Try.prog 69 [.ro 2 (l0.map TThing.c)] [] 0 (.tup [.ro 1 (R.1.map c_u8), .int .i64 R.2]) [] 0 := by
 refine FnOk.wk i69 rfl rfl ?_
 unfold F69_tlv_Put at hR
 change WK _ _ _ [ac69] _ ⟨[(0, .ro 2 (l0.map TThing.c))], [], 0⟩
 unfold ac69
 refine WK.sr mixed ?_
 iterate 2 refine GX.m rfl ?_
 refine GX.done ?_
 refine WK.sr mixed ?_
 refine GX.m rfl ?_
 refine GX.done ?_
 refine WK.seq ?_
 refine WK.sr mixed ?_
 refine GX.m rfl ?_
 refine GX.pure (v' := .int .i64 (l0.length : Int)) rfl rfl rfl rfl (len_map _ _) ?_
 refine GX.m rfl ?_
 refine GX.done ?_
 refine WK.adopt (t := 4) (sz := 1) (ty := 5) (heap' := [(0, .row 1 5 (([] : List Int).map c_u8))]) rfl (by decide) (by simp) rfl ?_
 refine WK.len (t := 0) rfl (by simp) (fun hlen_13 => ?_)
 rw [List.length_map] at hlen_13
 generalize hZ_13 : F69_tlv_Put_l1 ([] : List Int) l0 = Z_13 at hR
 refine WK.forK (fun k s => ∃ (i9 : Nat) (out4 : List Int), i9 ≤ l0.length ∧ k = l0.length - i9 ∧ out4.length ≤ 257 * i9 ∧ F69_tlv_Put_l1 out4 (l0.drop i9) = Z_13 ∧ s = ⟨[(4, .own 0 1 0 out4.length), (7, .ro 2 (l0.map TThing.c)), (8, .int .i64 (l0.length : Int)), (9, .int .i64 (i9 : Int))], [(0, .row 1 5 (out4.map c_u8))], 1⟩) l0.length ⟨⟨[(4, .own 0 1 0 ([] : List Int).length), (7, .ro 2 (l0.map TThing.c)), (8, .int .i64 (l0.length : Int)), (9, .int .i64 (0 : Int))], [(0, .row 1 5 (([] : List Int).map c_u8))], 1⟩, Conv.keep [0] [] [4, 7, 8, 9] rfl rfl (viewE_cons rfl rfl (viewE_cons rfl rfl (viewE_cons rfl rfl (viewE_cons rfl rfl viewE_nil)))) rfl rfl, 0, ([] : List Int), (by omega), rfl, (by ((try simp only [List.length_append, List.length_cons, List.length_nil, decide_eq_true_eq, decide_eq_false_iff_not] at *) <;> first | omega | (rw [wrap64_of (by omega) (by omega)]; omega))), hZ_13, rfl⟩ ?_
 rintro _ _ ⟨i9, out4, hi_13, rfl, hinv13_out4, hL_13, rfl⟩ again_13 out_13 Q_13 hagain_13 hout_13 hQ_13
 refine WK.sr mixed ?_
 refine GX.q (.bool (decide ((i9 : Int) < (l0.length : Int)))) ?_
 refine GX.done ?_
 refine WK.seq ?_
 rcases bool_two (decide ((i9 : Int) < (l0.length : Int))) with hb14 | hb14
 ·rw [hb14]
  rw [drop_end hb14, F69_tlv_Put_l1] at hL_13
  refine WK.condF rfl ?_
  refine WK.exit ?_
  refine QF.exit (hout_13 _ ?_)
  subst hL_13
  try dsimp only [cond_true, cond_false] at hR
  refine WK.sr mixed ?_
  iterate 3 refine GX.m rfl ?_
  refine GX.done ?_
  refine WK.ret ?_
  subst hR
  exact RetQ.fr [0] (.inr rfl) rfl rfl (viewGo_cons (view_rowT rfl rfl) (viewGo_cons rfl viewGo_nil)) rfl
 ·rw [hb14]
  obtain ⟨x9, hx13, hd13, hlt13⟩ := drop_more hb14
  rw [hd13, F69_tlv_Put_l1] at hL_13
  refine WK.condT rfl ?_
  refine WK.skip ?_
  refine WK.seq ?_
  refine WK.blockK (fun _ hK15 => ?_)
  refine WK.sr mixed ?_
  refine GX.idxT (c := TThing.c) (x := x9) rfl rfl rfl (Int.natCast_nonneg _) hx13 ?_
  refine GX.q (.agg (TThing.c x9)) ?_
  refine GX.step (v' := .ptr 1 0) (heap' := [(0, .row 1 5 (out4.map c_u8)), (1, .box [.int .i64 0, .nils])]) (next' := 2) rfl rfl rfl rfl rfl rfl rfl ?_
  refine GX.step0 (heap' := [(0, .row 1 5 (out4.map c_u8)), (1, .box (TThing.c x9))]) (next' := 2) rfl rfl rfl rfl rfl ?_
  refine GX.done ?_
  refine WK.seq ?_
  refine WK.sr mixed ?_
  refine GX.q (.ptr 1 0) ?_
  refine GX.q (.int .i64 x9.Kind) ?_
  refine GX.q (.bool (decide (x9.Kind < 0))) ?_
  refine GX.m rfl ?_
  rcases bool_two (decide (x9.Kind < 0)) with hb16 | hb16
  ·rw [hb16]; try simp only [hb16, bb] at hL_13
   refine GX.q (.ptr 1 0) ?_
   refine GX.q (.int .i64 x9.Kind) ?_
   iterate 2 refine GX.q (.bool (decide (255 < x9.Kind))) ?_
   refine GX.m rfl ?_
   rcases bool_two (decide (255 < x9.Kind)) with hb17 | hb17
   ·rw [hb17]; try simp only [hb17, bb] at hL_13
    refine GX.q (.ptr 1 1) ?_
    refine GX.q (.ro 1 (x9.B.map c_u8)) ?_
    refine GX.pure (v' := .int .i64 (x9.B.length : Int)) rfl rfl rfl rfl (len_map _ _) ?_
    iterate 2 refine GX.q (.bool (decide (255 < (x9.B.length : Int)))) ?_
    refine GX.done ?_
    rcases bool_two (decide (255 < (x9.B.length : Int))) with hb18 | hb18
    ·rw [hb18]; try simp only [hb18, bb] at hL_13
     refine WK.condF rfl ?_
     refine WK.skip ?_
     refine WK.drawn mixed ?_
     refine RD.m rfl ?_
     refine RD.q (.ptr 1 0) ?_
     refine RD.q (.int .i64 x9.Kind) ?_
     refine RD.q (.int .u8 (IntKind.u8.wrap x9.Kind)) ?_
     refine RD.q (.ptr 1 1) ?_
     refine RD.q (.ro 1 (x9.B.map c_u8)) ?_
     refine RD.pure (v' := .int .i64 (x9.B.length : Int)) rfl rfl rfl rfl (len_map _ _) ?_
     refine RD.q (.int .u8 (IntKind.u8.wrap (x9.B.length : Int))) ?_
     refine RD.step (v' := .own 2 1 0 (([IntKind.u8.wrap x9.Kind, IntKind.u8.wrap (x9.B.length : Int)] : List Int)).length) (heap' := [(0, .row 1 5 (out4.map c_u8)), (1, .box (TThing.c x9)), (2, .row 1 5 (([IntKind.u8.wrap x9.Kind, IntKind.u8.wrap (x9.B.length : Int)] : List Int).map c_u8))]) (next' := 3) rfl rfl rfl rfl rfl rfl rfl ?_
     refine RD.appT (c := c_u8) (L := out4) (X := ([IntKind.u8.wrap x9.Kind, IntKind.u8.wrap (x9.B.length : Int)] : List Int)) (heap' := [(1, .box (TThing.c x9)), (2, .row 1 5 (([IntKind.u8.wrap x9.Kind, IntKind.u8.wrap (x9.B.length : Int)] : List Int).map c_u8)), (3, .row 1 5 ((out4 ++ ([IntKind.u8.wrap x9.Kind, IntKind.u8.wrap (x9.B.length : Int)] : List Int)).map c_u8))]) (next' := 4) rfl rfl rfl rfl (elems_own rfl) (by ((try simp only [List.length_append, List.length_cons, List.length_nil, List.length_map, decide_eq_true_eq, decide_eq_false_iff_not] at *) <;> omega)) (by ((try simp only [List.length_append, List.length_cons, List.length_nil, List.length_map, decide_eq_true_eq, decide_eq_false_iff_not] at *) <;> omega)) rfl rfl rfl rfl ?_
     refine RD.q (.ptr 1 1) ?_
     refine RD.q (.ro 1 (x9.B.map c_u8)) ?_
     refine RD.appT (c := c_u8) (L := (out4 ++ ([IntKind.u8.wrap x9.Kind, IntKind.u8.wrap (x9.B.length : Int)] : List Int))) (X := x9.B) (heap' := [(1, .box (TThing.c x9)), (2, .row 1 5 (([IntKind.u8.wrap x9.Kind, IntKind.u8.wrap (x9.B.length : Int)] : List Int).map c_u8)), (4, .row 1 5 (((out4 ++ ([IntKind.u8.wrap x9.Kind, IntKind.u8.wrap (x9.B.length : Int)] : List Int)) ++ x9.B).map c_u8))]) (next' := 5) rfl rfl rfl rfl elems_ro (by ((try simp only [List.length_append, List.length_cons, List.length_nil, List.length_map, decide_eq_true_eq, decide_eq_false_iff_not] at *) <;> omega)) (by ((try simp only [List.length_append, List.length_cons, List.length_nil, List.length_map, decide_eq_true_eq, decide_eq_false_iff_not] at *) <;> omega)) rfl rfl rfl rfl ?_
     refine RD.m rfl ?_
     refine RD.done rfl ?_
     refine WK.nil (QF.normal (hK15 _ ?_))
     refine WK.regx mixed ?_
     refine GX.pure (v' := .int .i64 ((i9 + 1 : Nat) : Int)) rfl rfl rfl rfl (congrArg (PVal.int .i64) (wrap_up hlt13 hlen_13)) ?_
     refine GX.m rfl ?_
     refine GX.done ?_
     refine WK.nil (QF.normal ?_)
     exact hagain_13 _ (l0.length - (i9 + 1)) ⟨[(4, .own 0 1 0 ((out4 ++ ([IntKind.u8.wrap x9.Kind, IntKind.u8.wrap (x9.B.length : Int)] : List Int)) ++ x9.B).length), (7, .ro 2 (l0.map TThing.c)), (8, .int .i64 (l0.length : Int)), (9, .int .i64 ((i9 + 1) : Int))], [(0, .row 1 5 (((out4 ++ ([IntKind.u8.wrap x9.Kind, IntKind.u8.wrap (x9.B.length : Int)] : List Int)) ++ x9.B).map c_u8))], 1⟩ (by omega) (Conv.keep [4] [] [4, 7, 8, 9] rfl rfl (viewE_cons rfl rfl (viewE_cons rfl rfl (viewE_cons rfl rfl (viewE_cons rfl rfl viewE_nil)))) rfl rfl) ⟨i9 + 1, ((out4 ++ ([IntKind.u8.wrap x9.Kind, IntKind.u8.wrap (x9.B.length : Int)] : List Int)) ++ x9.B), (by omega), rfl, (by ((try simp only [List.length_append, List.length_cons, List.length_nil, decide_eq_true_eq, decide_eq_false_iff_not] at *) <;> first | omega | (rw [wrap64_of (by omega) (by omega)]; omega))), hL_13, rfl⟩
    ·rw [hb18]; try simp only [hb18, bb] at hL_13
     refine WK.condT rfl ?_
     refine WK.sr mixed ?_
     iterate 2 refine GX.m rfl ?_
     refine GX.done ?_
     refine WK.ret ?_
     refine QF.ret ?_
     refine QF.ret (hQ_13 _ _ ?_)
     subst hL_13
     subst hR
     exact RetQ.frw [] (.inr rfl) rfl rfl rfl (.tup (.cons .nil .refl))
   ·rw [hb17]; try simp only [hb17, bb] at hL_13
    iterate 4 refine GX.skip rfl rfl ?_
    refine GX.q (.bool true) ?_
    refine GX.done ?_
    refine WK.condT rfl ?_
    refine WK.sr mixed ?_
    iterate 2 refine GX.m rfl ?_
    refine GX.done ?_
    refine WK.ret ?_
    refine QF.ret ?_
    refine QF.ret (hQ_13 _ _ ?_)
    subst hL_13
    subst hR
    exact RetQ.frw [] (.inr rfl) rfl rfl rfl (.tup (.cons .nil .refl))
  ·rw [hb16]; try simp only [hb16, bb] at hL_13
   iterate 3 refine GX.skip rfl rfl ?_
   refine GX.q (.bool true) ?_
   refine GX.m rfl ?_
   iterate 4 refine GX.skip rfl rfl ?_
   refine GX.q (.bool true) ?_
   refine GX.done ?_
   refine WK.condT rfl ?_
   refine WK.sr mixed ?_
   iterate 2 refine GX.m rfl ?_
   refine GX.done ?_
   refine WK.ret ?_
   refine QF.ret ?_
   refine QF.ret (hQ_13 _ _ ?_)
   subst hL_13
   subst hR
   exact RetQ.frw [] (.inr rfl) rfl rfl rfl (.tup (.cons .nil .refl))

theorem f70_ok (kind0 : Int) (R : Int) (hR : F70_pdu_headOf kind0 = R) : FnOk Try.prog 70 [.int .i64 kind0] [] 0 (.int .i64 R) [] 0 := by
 refine FnOk.wk i70 rfl rfl ?_
 unfold F70_pdu_headOf at hR
 change WK _ _ _ [ac70] _ ⟨[(0, .int .i64 kind0)], [], 0⟩
 unfold ac70
 refine WK.sr mixed ?_
 refine GX.m rfl ?_
 refine GX.done ?_
 refine WK.seq ?_
 refine WK.sr mixed ?_
 refine GX.m rfl ?_
 refine GX.done ?_
 refine WK.blockK (fun _ hK1 => ?_)
 refine WK.sr mixed ?_
 refine GX.q (.bool (decide (kind0 = 17))) ?_
 refine GX.m rfl ?_
 refine GX.done ?_
 rcases bool_two (decide (kind0 = 17)) with hb2 | hb2
 ·rw [hb2]; try simp only [hb2, bb] at hR
  refine WK.condF rfl ?_
  refine WK.seq ?_
  refine WK.sr mixed ?_
  refine GX.q (.bool (decide (kind0 = 18))) ?_
  refine GX.m rfl ?_
  refine GX.done ?_
  rcases bool_two (decide (kind0 = 18)) with hb3 | hb3
  ·rw [hb3]; try simp only [hb3, bb] at hR
   refine WK.condF rfl ?_
   refine WK.regx mixed ?_
   refine GX.q (.bool (decide (kind0 = 20))) ?_
   refine GX.m rfl ?_
   refine GX.done ?_
   rcases bool_two (decide (kind0 = 20)) with hb4 | hb4
   ·rw [hb4]; try simp only [hb4, bb] at hR
    refine WK.condF rfl ?_
    refine WK.seq ?_
    refine WK.sr mixed ?_
    refine GX.q (.bool (decide (kind0 = 24))) ?_
    refine GX.m rfl ?_
    refine GX.done ?_
    rcases bool_two (decide (kind0 = 24)) with hb5 | hb5
    ·rw [hb5]; try simp only [hb5, bb] at hR
     refine WK.condF rfl ?_
     refine WK.regx mixed ?_
     refine GX.q (.bool (decide (kind0 = 25))) ?_
     refine GX.m rfl ?_
     refine GX.done ?_
     rcases bool_two (decide (kind0 = 25)) with hb6 | hb6
     ·rw [hb6]; try simp only [hb6, bb] at hR
      refine WK.condF rfl ?_
      refine WK.seq ?_
      refine WK.sr mixed ?_
      refine GX.q (.bool (decide (kind0 = 26))) ?_
      refine GX.m rfl ?_
      refine GX.done ?_
      rcases bool_two (decide (kind0 = 26)) with hb7 | hb7
      ·rw [hb7]; try simp only [hb7, bb] at hR
       refine WK.condF rfl ?_
       refine WK.regx mixed ?_
       refine GX.q (.bool (decide (kind0 = 27))) ?_
       refine GX.m rfl ?_
       refine GX.done ?_
       rcases bool_two (decide (kind0 = 27)) with hb8 | hb8
       ·rw [hb8]; try simp only [hb8, bb] at hR
        refine WK.condF rfl ?_
        refine WK.skip ?_
        refine WK.nil (QF.normal (hK1 _ ?_))
        refine WK.sr mixed ?_
        refine GX.m rfl ?_
        refine GX.done ?_
        refine WK.ret ?_
        subst hR
        exact RetQ.fr [] (.inr rfl) rfl rfl rfl rfl
       ·rw [hb8]; try simp only [hb8, bb] at hR
        refine WK.condT rfl ?_
        refine WK.sr mixed ?_
        refine GX.m rfl ?_
        refine GX.done ?_
        refine WK.ret ?_
        refine QF.ret ?_
        subst hR
        exact RetQ.fr [] (.inr rfl) rfl rfl rfl rfl
      ·rw [hb7]; try simp only [hb7, bb] at hR
       refine WK.condT rfl ?_
       refine WK.skip ?_
       refine WK.condT rfl ?_
       refine WK.sr mixed ?_
       refine GX.m rfl ?_
       refine GX.done ?_
       refine WK.ret ?_
       refine QF.ret ?_
       subst hR
       exact RetQ.fr [] (.inr rfl) rfl rfl rfl rfl
     ·rw [hb6]; try simp only [hb6, bb] at hR
      refine WK.condT rfl ?_
      refine WK.sr mixed ?_
      refine GX.m rfl ?_
      refine GX.done ?_
      refine WK.ret ?_
      refine QF.ret ?_
      subst hR
      exact RetQ.fr [] (.inr rfl) rfl rfl rfl rfl
    ·rw [hb5]; try simp only [hb5, bb] at hR
     refine WK.condT rfl ?_
     refine WK.skip ?_
     refine WK.condT rfl ?_
     refine WK.sr mixed ?_
     refine GX.m rfl ?_
     refine GX.done ?_
     refine WK.ret ?_
     refine QF.ret ?_
     subst hR
     exact RetQ.fr [] (.inr rfl) rfl rfl rfl rfl
   ·rw [hb4]; try simp only [hb4, bb] at hR
    refine WK.condT rfl ?_
    refine WK.sr mixed ?_
    refine GX.m rfl ?_
    refine GX.done ?_
    refine WK.ret ?_
    refine QF.ret ?_
    subst hR
    exact RetQ.fr [] (.inr rfl) rfl rfl rfl rfl
  ·rw [hb3]; try simp only [hb3, bb] at hR
   refine WK.condT rfl ?_
   refine WK.skip ?_
   refine WK.condT rfl ?_
   refine WK.sr mixed ?_
   refine GX.m rfl ?_
   refine GX.done ?_
   refine WK.ret ?_
   refine QF.ret ?_
   subst hR
   exact RetQ.fr [] (.inr rfl) rfl rfl rfl rfl
 ·rw [hb2]; try simp only [hb2, bb] at hR
  refine WK.condT rfl ?_
  refine WK.sr mixed ?_
  refine GX.m rfl ?_
  refine GX.done ?_
  refine WK.ret ?_
  refine QF.ret ?_
  subst hR
  exact RetQ.fr [] (.inr rfl) rfl rfl rfl rfl

theorem f71_ok (n0 : Int) (R : Bool) (hR : F71_pdu_isLevel n0 = R) : FnOk Try.prog 71 [.int .i64 n0] [] 0 (.bool R) [] 0 := by
 refine FnOk.wk i71 rfl rfl ?_
 unfold F71_pdu_isLevel at hR
 change WK _ _ _ [ac71] _ ⟨[(0, .int .i64 n0)], [], 0⟩
 unfold ac71
 refine WK.sr mixed ?_
 refine GX.m rfl ?_
 refine GX.done ?_
 refine WK.sr mixed ?_
 refine GX.m rfl ?_
 refine GX.q (.bool (decide (n0 = 1))) ?_
 refine GX.m rfl ?_
 rcases bool_two (decide (n0 = 1)) with hb1 | hb1
 ·rw [hb1]; try simp only [hb1, bb] at hR
  refine GX.m rfl ?_
  iterate 2 refine GX.q (.bool (decide (n0 = 2))) ?_
  refine GX.m rfl ?_
  refine GX.done ?_
  refine WK.ret ?_
  subst hR
  exact RetQ.fr [] (.inr rfl) rfl rfl rfl rfl
 ·rw [hb1]; try simp only [hb1, bb] at hR
  iterate 2 refine GX.skip rfl rfl ?_
  refine GX.q (.bool true) ?_
  refine GX.m rfl ?_
  refine GX.done ?_
  refine WK.ret ?_
  subst hR
  exact RetQ.fr [] (.inr rfl) rfl rfl rfl rfl

theorem f72_ok (n0 : Int) (most1 : Int) (R : Bool) (hR : F72_pdu_isIn n0 most1 = R) : FnOk Try.prog 72 [.int .i64 n0, .int .i64 most1] [] 0 (.bool R) [] 0 := by
 refine FnOk.wk i72 rfl rfl ?_
 unfold F72_pdu_isIn at hR
 change WK _ _ _ [ac72] _ ⟨[(0, .int .i64 n0), (1, .int .i64 most1)], [], 0⟩
 unfold ac72
 refine WK.sr mixed ?_
 refine GX.m rfl ?_
 refine GX.done ?_
 refine WK.sr mixed ?_
 refine GX.m rfl ?_
 refine GX.q (.bool (decide (0 ≤ n0))) ?_
 refine GX.m rfl ?_
 rcases bool_two (decide (0 ≤ n0)) with hb1 | hb1
 ·rw [hb1]; try simp only [hb1, bb] at hR
  iterate 3 refine GX.skip rfl rfl ?_
  refine GX.q (.bool false) ?_
  refine GX.m rfl ?_
  refine GX.done ?_
  refine WK.ret ?_
  subst hR
  exact RetQ.fr [] (.inr rfl) rfl rfl rfl rfl
 ·rw [hb1]; try simp only [hb1, bb] at hR
  iterate 2 refine GX.m rfl ?_
  iterate 2 refine GX.q (.bool (decide (n0 ≤ most1))) ?_
  refine GX.m rfl ?_
  refine GX.done ?_
  refine WK.ret ?_
  subst hR
  exact RetQ.fr [] (.inr rfl) rfl rfl rfl rfl

theorem f73_ok (kind0 : Int) (R : (List Int)) (hR : F73_pdu_begin kind0 = R) : FnOk Try.prog 73 [.int .i64 kind0] [] 0 (.own 0 1 0 R.length) [(0, .row 1 5 (R.map c_u8))] 1 := by
 refine FnOk.wk i73 rfl rfl ?_
 unfold F73_pdu_begin at hR
 change WK _ _ _ [ac73] _ ⟨[(0, .int .i64 kind0)], [], 0⟩
 unfold ac73
 refine WK.sr mixed ?_
 refine GX.m rfl ?_
 refine GX.done ?_
 refine WK.sr mixed ?_
 refine GX.m rfl ?_
 generalize hc4 : F70_pdu_headOf kind0 = c4 at hR
 try dsimp only at hR
 refine GX.callp (r := .int .i64 c4) rfl rfl rfl (f70_ok kind0 _ hc4) rfl rfl ?_
 refine GX.q (.int .u8 (IntKind.u8.wrap c4)) ?_
 refine GX.m rfl ?_
 refine GX.q (.int .u8 (IntKind.u8.wrap kind0)) ?_
 refine GX.step (v' := .own 0 1 0 (([131, IntKind.u8.wrap c4, 1, 0, IntKind.u8.wrap kind0, 1, 0, 0] : List Int)).length) (heap' := [(0, .row 1 5 (([131, IntKind.u8.wrap c4, 1, 0, IntKind.u8.wrap kind0, 1, 0, 0] : List Int).map c_u8))]) (next' := 1) rfl rfl rfl rfl rfl rfl rfl ?_
 refine GX.m rfl ?_
 refine GX.done ?_
 refine WK.ret ?_
 subst hR
 exact RetQ.ret [0] [] (.inr rfl) rfl rfl rfl rfl rfl .refl rfl

theorem f74_ok (p0 : TPage) (n1 : Int) (many2 : Int) (hp0 : 0 ≤ many2) (hp1 : many2 ≤ 8) (hp2 : p0.b.length ≤ 1000) (R : TPage) (hR : F74_pdu_page_put p0 n1 many2 = R) : FnOk Try.prog 74 [.ptr 0 0, .int .u64 n1, .int .i64 many2] [(0, .box [.own 1 1 0 p0.b.length]), (1, .row 1 5 (p0.b.map c_u8))] 2 (.tup []) [(0, .box [.own 2 1 0 R.b.length]), (2, .row 1 5 (R.b.map c_u8))] 3 := by
 refine FnOk.wk i74 rfl rfl ?_
 unfold F74_pdu_page_put at hR
 change WK _ _ _ [ac74] _ ⟨[(0, .ptr 0 0), (1, .int .u64 n1), (2, .int .i64 many2)], [(0, .box [.own 1 1 0 p0.b.length]), (1, .row 1 5 (p0.b.map c_u8))], 2⟩
 unfold ac74
 refine WK.mvB (id := 0) (j := 0) (heap' := [(0, .box [.own 2 1 0 p0.b.length]), (2, .row 1 5 (p0.b.map c_u8))]) rfl rfl rfl (by simp) rfl ?_
 refine WK.sr mixed ?_
 refine GX.m rfl ?_
 refine GX.q (.int .i64 (IntKind.i64.wrap (many2 - 1))) ?_
 refine GX.m rfl ?_
 refine GX.done ?_
 generalize hZ_4 : F74_pdu_page_put_l1 n1 (((IntKind.i64.wrap (many2 - 1)) + 1).toNat + 1) (IntKind.i64.wrap (many2 - 1)) p0.b = Z_4 at hR
 refine WK.forK (fun k s => ∃ (i6 : Int) (row2 : List Int), (i6 + 1).toNat < k ∧ -1 ≤ i6 ∧ i6 ≤ 7 ∧ (row2.length : Int) ≤ p0.b.length + 7 - i6 ∧ p0.b.length ≤ 1000 ∧ F74_pdu_page_put_l1 n1 k i6 row2 = Z_4 ∧ s = ⟨[(0, .ptr 0 0), (1, .int .u64 n1), (6, .int .i64 i6)], [(0, .box [.own 2 1 0 row2.length]), (2, .row 1 5 (row2.map c_u8))], 3⟩) (((IntKind.i64.wrap (many2 - 1)) + 1).toNat + 1) ⟨⟨[(0, .ptr 0 0), (1, .int .u64 n1), (6, .int .i64 (IntKind.i64.wrap (many2 - 1)))], [(0, .box [.own 2 1 0 p0.b.length]), (2, .row 1 5 (p0.b.map c_u8))], 3⟩, Conv.keepR [0, 1, 2] [] [0, 1, 6] rfl rfl (viewE_cons rfl rfl (viewE_cons rfl rfl (viewE_cons rfl rfl viewE_nil))) rfl rfl, (IntKind.i64.wrap (many2 - 1)), p0.b, Nat.lt_succ_self _, (by first | assumption | omega | ((try simp only [decide_eq_true_eq, decide_eq_false_iff_not, List.length_set, List.length_append, List.length_cons, List.length_nil] at *) <;> first | omega | (rw [mid_eq (by omega) (by omega) (by omega)]; omega) | (rw [mid_eq (by omega) (by omega) (by omega), wrap64_of (by omega) (by omega)]; omega) | (rw [wrap64_of (by omega) (by omega)]; omega))), (by first | assumption | omega | ((try simp only [decide_eq_true_eq, decide_eq_false_iff_not, List.length_set, List.length_append, List.length_cons, List.length_nil] at *) <;> first | omega | (rw [mid_eq (by omega) (by omega) (by omega)]; omega) | (rw [mid_eq (by omega) (by omega) (by omega), wrap64_of (by omega) (by omega)]; omega) | (rw [wrap64_of (by omega) (by omega)]; omega))), (by first | assumption | omega | ((try simp only [decide_eq_true_eq, decide_eq_false_iff_not, List.length_set, List.length_append, List.length_cons, List.length_nil] at *) <;> first | omega | (rw [mid_eq (by omega) (by omega) (by omega)]; omega) | (rw [mid_eq (by omega) (by omega) (by omega), wrap64_of (by omega) (by omega)]; omega) | (rw [wrap64_of (by omega) (by omega)]; omega))), (by first | assumption | omega | ((try simp only [decide_eq_true_eq, decide_eq_false_iff_not, List.length_set, List.length_append, List.length_cons, List.length_nil] at *) <;> first | omega | (rw [mid_eq (by omega) (by omega) (by omega)]; omega) | (rw [mid_eq (by omega) (by omega) (by omega), wrap64_of (by omega) (by omega)]; omega) | (rw [wrap64_of (by omega) (by omega)]; omega))), hZ_4, rfl⟩ ?_
 rintro k4 _ ⟨i6, row2, hfu4, hinv4_w0, hinv4_w1, hinv4_w2, hinv4_w3, hL_4, rfl⟩ again_4 out_4 Q_4 hagain_4 hout_4 hQ_4
 obtain ⟨f4, rfl⟩ : ∃ f, k4 = f + 1 := ⟨k4 - 1, by omega⟩
 unfold F74_pdu_page_put_l1 at hL_4; try dsimp only at hL_4
 refine WK.seq ?_
 refine WK.sr mixed ?_
 refine GX.m rfl ?_
 refine GX.q (.bool (decide (0 ≤ i6))) ?_
 refine GX.done ?_
 rcases bool_two (decide (0 ≤ i6)) with hb5 | hb5
 ·rw [hb5]; try simp only [hb5, bb] at hL_4
  refine WK.condF rfl ?_
  refine WK.exit ?_
  refine QF.exit (hout_4 _ ?_)
  subst hL_4
  try dsimp only [cond_true, cond_false] at hR
  refine WK.nil ?_
  subst hR
  exact RetQ.ret [0, 1, 2] [] (.inl rfl) rfl rfl rfl rfl rfl .refl rfl
 ·rw [hb5]; try simp only [hb5, bb] at hL_4
  refine WK.condT rfl ?_
  refine WK.skip ?_
  refine WK.seq ?_
  refine WK.blockK (fun _ hK6 => ?_)
  refine WK.drawn mixed ?_
  iterate 2 refine RD.m rfl ?_
  iterate 2 refine RD.q (.ptr 0 0) ?_
  refine RD.q (.own 2 1 0 row2.length) ?_
  iterate 2 refine RD.m rfl ?_
  refine RD.q (.int .i64 (IntKind.i64.wrap (8 * i6))) ?_
  refine RD.shr rfl rfl rfl (by ((try simp only [decide_eq_true_eq] at *); first | omega | (rw [wrap64_of (by omega) (by omega)]; omega))) ?_
  refine RD.q (.int .u8 (IntKind.u8.wrap (shr_ .u64 n1 (IntKind.i64.wrap (8 * i6))))) ?_
  refine RD.step (v' := .own 3 1 0 (([IntKind.u8.wrap (shr_ .u64 n1 (IntKind.i64.wrap (8 * i6)))] : List Int)).length) (heap' := [(0, .box [.own 2 1 0 row2.length]), (2, .row 1 5 (row2.map c_u8)), (3, .row 1 5 (([IntKind.u8.wrap (shr_ .u64 n1 (IntKind.i64.wrap (8 * i6)))] : List Int).map c_u8))]) (next' := 4) rfl rfl rfl rfl rfl rfl rfl ?_
  refine RD.appT (c := c_u8) (L := row2) (X := ([IntKind.u8.wrap (shr_ .u64 n1 (IntKind.i64.wrap (8 * i6)))] : List Int)) (heap' := [(0, .box [.own 2 1 0 row2.length]), (3, .row 1 5 (([IntKind.u8.wrap (shr_ .u64 n1 (IntKind.i64.wrap (8 * i6)))] : List Int).map c_u8)), (4, .row 1 5 ((row2 ++ ([IntKind.u8.wrap (shr_ .u64 n1 (IntKind.i64.wrap (8 * i6)))] : List Int)).map c_u8))]) (next' := 5) rfl rfl rfl rfl (elems_own rfl) (by ((try simp only [List.length_append, List.length_cons, List.length_nil, List.length_map, decide_eq_true_eq, decide_eq_false_iff_not] at *) <;> omega)) (by ((try simp only [List.length_append, List.length_cons, List.length_nil, List.length_map, decide_eq_true_eq, decide_eq_false_iff_not] at *) <;> omega)) rfl rfl rfl rfl ?_
  iterate 2 refine RD.q (.ptr 0 0) ?_
  refine RD.step0 (heap' := [(0, .box [.own 4 1 0 (row2 ++ ([IntKind.u8.wrap (shr_ .u64 n1 (IntKind.i64.wrap (8 * i6)))] : List Int)).length]), (3, .row 1 5 (([IntKind.u8.wrap (shr_ .u64 n1 (IntKind.i64.wrap (8 * i6)))] : List Int).map c_u8)), (4, .row 1 5 ((row2 ++ ([IntKind.u8.wrap (shr_ .u64 n1 (IntKind.i64.wrap (8 * i6)))] : List Int)).map c_u8))]) (next' := 5) rfl rfl rfl rfl rfl ?_
  refine RD.done rfl ?_
  refine WK.nil (QF.normal (hK6 _ ?_))
  refine WK.regx mixed ?_
  refine GX.m rfl ?_
  refine GX.q (.int .i64 (IntKind.i64.wrap (i6 - 1))) ?_
  refine GX.m rfl ?_
  refine GX.done ?_
  refine WK.nil (QF.normal ?_)
  exact hagain_4 _ f4 ⟨[(0, .ptr 0 0), (1, .int .u64 n1), (6, .int .i64 (IntKind.i64.wrap (i6 - 1)))], [(0, .box [.own 2 1 0 (row2 ++ ([IntKind.u8.wrap (shr_ .u64 n1 (IntKind.i64.wrap (8 * i6)))] : List Int)).length]), (2, .row 1 5 ((row2 ++ ([IntKind.u8.wrap (shr_ .u64 n1 (IntKind.i64.wrap (8 * i6)))] : List Int)).map c_u8))], 3⟩ (Nat.lt_succ_self _) (Conv.keepR [0, 1, 4] [] [0, 1, 6] rfl rfl (viewE_cons rfl rfl (viewE_cons rfl rfl (viewE_cons rfl rfl viewE_nil))) rfl rfl) ⟨(IntKind.i64.wrap (i6 - 1)), (row2 ++ ([IntKind.u8.wrap (shr_ .u64 n1 (IntKind.i64.wrap (8 * i6)))] : List Int)), (by first | assumption | omega | ((try simp only [decide_eq_true_eq, decide_eq_false_iff_not, List.length_set, List.length_append, List.length_cons, List.length_nil] at *) <;> first | omega | (rw [mid_eq (by omega) (by omega) (by omega)]; omega) | (rw [mid_eq (by omega) (by omega) (by omega), wrap64_of (by omega) (by omega)]; omega) | (rw [wrap64_of (by omega) (by omega)]; omega))), (by first | assumption | omega | ((try simp only [decide_eq_true_eq, decide_eq_false_iff_not, List.length_set, List.length_append, List.length_cons, List.length_nil] at *) <;> first | omega | (rw [mid_eq (by omega) (by omega) (by omega)]; omega) | (rw [mid_eq (by omega) (by omega) (by omega), wrap64_of (by omega) (by omega)]; omega) | (rw [wrap64_of (by omega) (by omega)]; omega))), (by first | assumption | omega | ((try simp only [decide_eq_true_eq, decide_eq_false_iff_not, List.length_set, List.length_append, List.length_cons, List.length_nil] at *) <;> first | omega | (rw [mid_eq (by omega) (by omega) (by omega)]; omega) | (rw [mid_eq (by omega) (by omega) (by omega), wrap64_of (by omega) (by omega)]; omega) | (rw [wrap64_of (by omega) (by omega)]; omega))), (by first | assumption | omega | ((try simp only [decide_eq_true_eq, decide_eq_false_iff_not, List.length_set, List.length_append, List.length_cons, List.length_nil] at *) <;> first | omega | (rw [mid_eq (by omega) (by omega) (by omega)]; omega) | (rw [mid_eq (by omega) (by omega) (by omega), wrap64_of (by omega) (by omega)]; omega) | (rw [wrap64_of (by omega) (by omega)]; omega))), (by first | assumption | omega | ((try simp only [decide_eq_true_eq, decide_eq_false_iff_not, List.length_set, List.length_append, List.length_cons, List.length_nil] at *) <;> first | omega | (rw [mid_eq (by omega) (by omega) (by omega)]; omega) | (rw [mid_eq (by omega) (by omega) (by omega), wrap64_of (by omega) (by omega)]; omega) | (rw [wrap64_of (by omega) (by omega)]; omega))), hL_4, rfl⟩

theorem f61_ok (x0 : TLsp) (hp0 : x0.Things.length ≤ 100) (R : (List Int) × Int) (hR : F61_pdu_PutLsp x0 = R) : FnOk Try.prog 61 [.agg (TLsp.c x0)] [] 0 (.tup [.ro 1 (R.1.map c_u8), .int .i64 R.2]) [] 0 := by
 refine FnOk.wk i61 rfl rfl ?_
 unfold F61_pdu_PutLsp at hR
 change WK _ _ _ [ac61] _ ⟨[(0, .agg (TLsp.c x0))], [], 0⟩
 unfold ac61
 refine WK.sr mixed ?_
 refine GX.step (v' := .ptr 0 0) (heap' := [(0, .box (TLsp.c x0))]) (next' := 1) rfl rfl rfl rfl rfl rfl rfl ?_
 iterate 2 refine GX.m rfl ?_
 refine GX.done ?_
 refine WK.sr mixed ?_
 refine GX.q (.ptr 0 6) ?_
 refine GX.q (.ro 2 (x0.Things.map TThing.c)) ?_
 generalize hc12 : F69_tlv_Put x0.Things = c12 at hR
 have hpo0_c12 := post_tput x0.Things (by omega); rw [hc12] at hpo0_c12
 obtain ⟨c12a, c12b⟩ := c12; try dsimp only at hR; try dsimp only at hpo0_c12
 refine GX.callp (r := .tup [.ro 1 (c12a.map c_u8), .int .i64 c12b]) rfl rfl rfl (f69_ok x0.Things (by omega) _ hc12) rfl rfl ?_
 refine GX.m rfl ?_
 refine GX.q (.ro 1 (c12a.map c_u8)) ?_
 refine GX.q (.int .i64 c12b) ?_
 iterate 2 refine GX.m rfl ?_
 refine GX.done ?_
 refine WK.sr mixed ?_
 generalize hc15 : F70_pdu_headOf 18 = c15 at hR
 try dsimp only at hR
 refine GX.callp (r := .int .i64 c15) rfl rfl rfl (f70_ok 18 _ hc15) rfl rfl ?_
 refine GX.m rfl ?_
 refine GX.pure (v' := .int .i64 (c12a.length : Int)) rfl rfl rfl rfl (len_map _ _) ?_
 refine GX.q (.int .i64 (IntKind.i64.wrap (c15 + (c12a.length : Int)))) ?_
 refine GX.m rfl ?_
 refine GX.done ?_
 refine WK.seq ?_
 refine WK.sr mixed ?_
 refine GX.m rfl ?_
 refine GX.q (.bool (!decide (c12b = 0))) ?_
 refine GX.m rfl ?_
 rcases bool_two (decide (c12b = 0)) with hb1 | hb1
 ·rw [hb1]; try simp only [hb1, bb] at hR
  iterate 4 refine GX.skip rfl rfl ?_
  refine GX.q (.bool true) ?_
  refine GX.m rfl ?_
  iterate 4 refine GX.skip rfl rfl ?_
  refine GX.q (.bool true) ?_
  refine GX.m rfl ?_
  iterate 4 refine GX.skip rfl rfl ?_
  refine GX.q (.bool true) ?_
  refine GX.m rfl ?_
  iterate 4 refine GX.skip rfl rfl ?_
  refine GX.q (.bool true) ?_
  refine GX.m rfl ?_
  iterate 2 refine GX.skip rfl rfl ?_
  refine GX.q (.bool true) ?_
  refine GX.done ?_
  refine WK.condT rfl ?_
  refine WK.sr mixed ?_
  iterate 2 refine GX.m rfl ?_
  refine GX.done ?_
  refine WK.ret ?_
  subst hR
  exact RetQ.frw [] (.inr rfl) rfl rfl rfl (.tup (.cons .nil .refl))
 ·rw [hb1]; try simp only [hb1, bb] at hR
  refine GX.q (.ptr 0 0) ?_
  refine GX.q (.int .i64 x0.Level) ?_
  generalize hc24 : F71_pdu_isLevel x0.Level = c24 at hR
  try dsimp only at hR
  refine GX.callp (r := .bool c24) rfl rfl rfl (f71_ok x0.Level _ hc24) rfl rfl ?_
  iterate 2 refine GX.q (.bool (!c24)) ?_
  refine GX.m rfl ?_
  rcases bool_two (c24) with hb2 | hb2
  ·rw [hb2]; try simp only [hb2, bb] at hR
   iterate 4 refine GX.skip rfl rfl ?_
   refine GX.q (.bool true) ?_
   refine GX.m rfl ?_
   iterate 4 refine GX.skip rfl rfl ?_
   refine GX.q (.bool true) ?_
   refine GX.m rfl ?_
   iterate 4 refine GX.skip rfl rfl ?_
   refine GX.q (.bool true) ?_
   refine GX.m rfl ?_
   iterate 2 refine GX.skip rfl rfl ?_
   refine GX.q (.bool true) ?_
   refine GX.done ?_
   refine WK.condT rfl ?_
   refine WK.sr mixed ?_
   iterate 2 refine GX.m rfl ?_
   refine GX.done ?_
   refine WK.ret ?_
   subst hR
   exact RetQ.frw [] (.inr rfl) rfl rfl rfl (.tup (.cons .nil .refl))
  ·rw [hb2]; try simp only [hb2, bb] at hR
   refine GX.q (.ptr 0 1) ?_
   refine GX.q (.int .i64 x0.Life) ?_
   generalize hc30 : F72_pdu_isIn x0.Life 65535 = c30 at hR
   try dsimp only at hR
   refine GX.callp (r := .bool c30) rfl rfl rfl (f72_ok x0.Life 65535 _ hc30) rfl rfl ?_
   iterate 2 refine GX.q (.bool (!c30)) ?_
   refine GX.m rfl ?_
   rcases bool_two (c30) with hb3 | hb3
   ·rw [hb3]; try simp only [hb3, bb] at hR
    iterate 4 refine GX.skip rfl rfl ?_
    refine GX.q (.bool true) ?_
    refine GX.m rfl ?_
    iterate 4 refine GX.skip rfl rfl ?_
    refine GX.q (.bool true) ?_
    refine GX.m rfl ?_
    iterate 2 refine GX.skip rfl rfl ?_
    refine GX.q (.bool true) ?_
    refine GX.done ?_
    refine WK.condT rfl ?_
    refine WK.sr mixed ?_
    iterate 2 refine GX.m rfl ?_
    refine GX.done ?_
    refine WK.ret ?_
    subst hR
    exact RetQ.frw [] (.inr rfl) rfl rfl rfl (.tup (.cons .nil .refl))
   ·rw [hb3]; try simp only [hb3, bb] at hR
    refine GX.q (.ptr 0 4) ?_
    refine GX.q (.int .i64 x0.Sum) ?_
    generalize hc36 : F72_pdu_isIn x0.Sum 65535 = c36 at hR
    try dsimp only at hR
    refine GX.callp (r := .bool c36) rfl rfl rfl (f72_ok x0.Sum 65535 _ hc36) rfl rfl ?_
    iterate 2 refine GX.q (.bool (!c36)) ?_
    refine GX.m rfl ?_
    rcases bool_two (c36) with hb4 | hb4
    ·rw [hb4]; try simp only [hb4, bb] at hR
     iterate 4 refine GX.skip rfl rfl ?_
     refine GX.q (.bool true) ?_
     refine GX.m rfl ?_
     iterate 2 refine GX.skip rfl rfl ?_
     refine GX.q (.bool true) ?_
     refine GX.done ?_
     refine WK.condT rfl ?_
     refine WK.sr mixed ?_
     iterate 2 refine GX.m rfl ?_
     refine GX.done ?_
     refine WK.ret ?_
     subst hR
     exact RetQ.frw [] (.inr rfl) rfl rfl rfl (.tup (.cons .nil .refl))
    ·rw [hb4]; try simp only [hb4, bb] at hR
     refine GX.q (.ptr 0 5) ?_
     refine GX.q (.int .i64 x0.Bits) ?_
     generalize hc42 : F72_pdu_isIn x0.Bits 63 = c42 at hR
     try dsimp only at hR
     refine GX.callp (r := .bool c42) rfl rfl rfl (f72_ok x0.Bits 63 _ hc42) rfl rfl ?_
     iterate 2 refine GX.q (.bool (!c42)) ?_
     refine GX.m rfl ?_
     rcases bool_two (c42) with hb5 | hb5
     ·rw [hb5]; try simp only [hb5, bb] at hR
      iterate 2 refine GX.skip rfl rfl ?_
      refine GX.q (.bool true) ?_
      refine GX.done ?_
      refine WK.condT rfl ?_
      refine WK.sr mixed ?_
      iterate 2 refine GX.m rfl ?_
      refine GX.done ?_
      refine WK.ret ?_
      subst hR
      exact RetQ.frw [] (.inr rfl) rfl rfl rfl (.tup (.cons .nil .refl))
     ·rw [hb5]; try simp only [hb5, bb] at hR
      refine GX.m rfl ?_
      iterate 2 refine GX.q (.bool (decide (1492 < IntKind.i64.wrap (c15 + (c12a.length : Int))))) ?_
      refine GX.done ?_
      rcases bool_two (decide (1492 < IntKind.i64.wrap (c15 + (c12a.length : Int)))) with hb6 | hb6
      ·rw [hb6]; try simp only [hb6, bb] at hR
       refine WK.condF rfl ?_
       refine WK.skip ?_
       refine WK.sr mixed ?_
       refine GX.m rfl ?_
       refine GX.done ?_
       refine WK.seq ?_
       refine WK.sr mixed ?_
       refine GX.q (.ptr 0 0) ?_
       refine GX.q (.int .i64 x0.Level) ?_
       refine GX.q (.bool (decide (x0.Level = 2))) ?_
       refine GX.done ?_
       rcases bool_two (decide (x0.Level = 2)) with hb7 | hb7
       ·rw [hb7]; try simp only [hb7, bb] at hR
        refine WK.condF rfl ?_
        refine WK.skip ?_
        refine WK.sr mixed ?_
        refine GX.m rfl ?_
        generalize hc53 : F73_pdu_begin 18 = c53 at hR
        have hpo0_c53 := post_begin 18; rw [hc53] at hpo0_c53
        try dsimp only at hR
        refine GX.callx (r' := .own 1 1 0 c53.length) (heap' := [(0, .box (TLsp.c x0)), (1, .row 1 5 (c53.map c_u8))]) (next' := 2) [] [] rfl rfl rfl rfl rfl rfl (f73_ok 18 _ hc53) (.inl rfl) rfl rfl rfl ?_
        refine GX.q (.agg [.own 1 1 0 c53.length]) ?_
        refine GX.step (v' := .ptr 2 0) (heap' := [(0, .box (TLsp.c x0)), (1, .row 1 5 (c53.map c_u8)), (2, .box [.own 1 1 0 c53.length])]) (next' := 3) rfl rfl rfl rfl rfl rfl rfl ?_
        refine GX.m rfl ?_
        refine GX.done ?_
        refine WK.sr mixed ?_
        iterate 2 refine GX.m rfl ?_
        refine GX.q (.int .u64 (IntKind.u64.wrap (IntKind.i64.wrap (c15 + (c12a.length : Int))))) ?_
        generalize hc59 : F74_pdu_page_put (⟨c53⟩ : TPage) (IntKind.u64.wrap (IntKind.i64.wrap (c15 + (c12a.length : Int)))) 2 = c59 at hR
        have hpo0_c59 := post_put (⟨c53⟩ : TPage) (IntKind.u64.wrap (IntKind.i64.wrap (c15 + (c12a.length : Int)))) 2 (by omega) (by omega); rw [hc59] at hpo0_c59
        try dsimp only at hR
        refine GX.callx (r' := .tup []) (heap' := [(0, .box (TLsp.c x0)), (2, .box [.own 3 1 0 c59.b.length]), (3, .row 1 5 (c59.b.map c_u8))]) (next' := 4) [2, 1] [] rfl rfl rfl rfl rfl rfl (f74_ok (⟨c53⟩ : TPage) (IntKind.u64.wrap (IntKind.i64.wrap (c15 + (c12a.length : Int)))) 2 (by omega) (by omega) (by ((try simp only [List.length_append, List.length_cons, List.length_nil, List.length_map, decide_eq_true_eq, decide_eq_false_iff_not] at *) <;> omega)) _ hc59) (.inl rfl) rfl rfl rfl ?_
        refine GX.done ?_
        refine WK.sr mixed ?_
        refine GX.m rfl ?_
        refine GX.q (.ptr 0 1) ?_
        refine GX.q (.int .i64 x0.Life) ?_
        refine GX.q (.int .u64 (IntKind.u64.wrap x0.Life)) ?_
        generalize hc64 : F74_pdu_page_put c59 (IntKind.u64.wrap x0.Life) 2 = c64 at hR
        have hpo0_c64 := post_put c59 (IntKind.u64.wrap x0.Life) 2 (by omega) (by omega); rw [hc64] at hpo0_c64
        try dsimp only at hR
        refine GX.callx (r' := .tup []) (heap' := [(0, .box (TLsp.c x0)), (2, .box [.own 4 1 0 c64.b.length]), (4, .row 1 5 (c64.b.map c_u8))]) (next' := 5) [2, 3] [] rfl rfl rfl rfl rfl rfl (f74_ok c59 (IntKind.u64.wrap x0.Life) 2 (by omega) (by omega) (by ((try simp only [List.length_append, List.length_cons, List.length_nil, List.length_map, decide_eq_true_eq, decide_eq_false_iff_not] at *) <;> omega)) _ hc64) (.inl rfl) rfl rfl rfl ?_
        refine GX.done ?_
        refine WK.sr mixed ?_
        refine GX.m rfl ?_
        refine GX.q (.ptr 0 2) ?_
        refine GX.q (.int .u64 x0.ID) ?_
        generalize hc68 : F74_pdu_page_put c64 x0.ID 8 = c68 at hR
        have hpo0_c68 := post_put c64 x0.ID 8 (by omega) (by omega); rw [hc68] at hpo0_c68
        try dsimp only at hR
        refine GX.callx (r' := .tup []) (heap' := [(0, .box (TLsp.c x0)), (2, .box [.own 5 1 0 c68.b.length]), (5, .row 1 5 (c68.b.map c_u8))]) (next' := 6) [2, 4] [] rfl rfl rfl rfl rfl rfl (f74_ok c64 x0.ID 8 (by omega) (by omega) (by ((try simp only [List.length_append, List.length_cons, List.length_nil, List.length_map, decide_eq_true_eq, decide_eq_false_iff_not] at *) <;> omega)) _ hc68) (.inl rfl) rfl rfl rfl ?_
        refine GX.done ?_
        refine WK.sr mixed ?_
        refine GX.m rfl ?_
        refine GX.q (.ptr 0 3) ?_
        refine GX.q (.int .u32 x0.Seq) ?_
        refine GX.q (.int .u64 (IntKind.u64.wrap x0.Seq)) ?_
        generalize hc73 : F74_pdu_page_put c68 (IntKind.u64.wrap x0.Seq) 4 = c73 at hR
        have hpo0_c73 := post_put c68 (IntKind.u64.wrap x0.Seq) 4 (by omega) (by omega); rw [hc73] at hpo0_c73
        try dsimp only at hR
        refine GX.callx (r' := .tup []) (heap' := [(0, .box (TLsp.c x0)), (2, .box [.own 6 1 0 c73.b.length]), (6, .row 1 5 (c73.b.map c_u8))]) (next' := 7) [2, 5] [] rfl rfl rfl rfl rfl rfl (f74_ok c68 (IntKind.u64.wrap x0.Seq) 4 (by omega) (by omega) (by ((try simp only [List.length_append, List.length_cons, List.length_nil, List.length_map, decide_eq_true_eq, decide_eq_false_iff_not] at *) <;> omega)) _ hc73) (.inl rfl) rfl rfl rfl ?_
        refine GX.done ?_
        refine WK.sr mixed ?_
        refine GX.m rfl ?_
        refine GX.q (.ptr 0 4) ?_
        refine GX.q (.int .i64 x0.Sum) ?_
        refine GX.q (.int .u64 (IntKind.u64.wrap x0.Sum)) ?_
        generalize hc78 : F74_pdu_page_put c73 (IntKind.u64.wrap x0.Sum) 2 = c78 at hR
        have hpo0_c78 := post_put c73 (IntKind.u64.wrap x0.Sum) 2 (by omega) (by omega); rw [hc78] at hpo0_c78
        try dsimp only at hR
        refine GX.callx (r' := .tup []) (heap' := [(0, .box (TLsp.c x0)), (2, .box [.own 7 1 0 c78.b.length]), (7, .row 1 5 (c78.b.map c_u8))]) (next' := 8) [2, 6] [] rfl rfl rfl rfl rfl rfl (f74_ok c73 (IntKind.u64.wrap x0.Sum) 2 (by omega) (by omega) (by ((try simp only [List.length_append, List.length_cons, List.length_nil, List.length_map, decide_eq_true_eq, decide_eq_false_iff_not] at *) <;> omega)) _ hc78) (.inl rfl) rfl rfl rfl ?_
        refine GX.done ?_
        refine WK.sr mixed ?_
        refine GX.m rfl ?_
        refine GX.q (.ptr 0 5) ?_
        refine GX.q (.int .i64 x0.Bits) ?_
        refine GX.q (.int .i64 (IntKind.i64.wrap (x0.Bits * 2 ^ 2))) ?_
        refine GX.m rfl ?_
        refine GX.q (.int .i64 1) ?_
        refine GX.q (.int .i64 (bit_or .i64 (IntKind.i64.wrap (x0.Bits * 2 ^ 2)) 1)) ?_
        refine GX.q (.int .u64 (IntKind.u64.wrap (bit_or .i64 (IntKind.i64.wrap (x0.Bits * 2 ^ 2)) 1))) ?_
        generalize hc87 : F74_pdu_page_put c78 (IntKind.u64.wrap (bit_or .i64 (IntKind.i64.wrap (x0.Bits * 2 ^ 2)) 1)) 1 = c87 at hR
        have hpo0_c87 := post_put c78 (IntKind.u64.wrap (bit_or .i64 (IntKind.i64.wrap (x0.Bits * 2 ^ 2)) 1)) 1 (by omega) (by omega); rw [hc87] at hpo0_c87
        try dsimp only at hR
        refine GX.callx (r' := .tup []) (heap' := [(0, .box (TLsp.c x0)), (2, .box [.own 8 1 0 c87.b.length]), (8, .row 1 5 (c87.b.map c_u8))]) (next' := 9) [2, 7] [] rfl rfl rfl rfl rfl rfl (f74_ok c78 (IntKind.u64.wrap (bit_or .i64 (IntKind.i64.wrap (x0.Bits * 2 ^ 2)) 1)) 1 (by omega) (by omega) (by ((try simp only [List.length_append, List.length_cons, List.length_nil, List.length_map, decide_eq_true_eq, decide_eq_false_iff_not] at *) <;> omega)) _ hc87) (.inl rfl) rfl rfl rfl ?_
        refine GX.done ?_
        refine WK.sr mixed ?_
        refine GX.m rfl ?_
        iterate 2 refine GX.q (.ptr 2 0) ?_
        refine GX.q (.own 8 1 0 c87.b.length) ?_
        refine GX.m rfl ?_
        refine GX.appT (c := c_u8) (L := c87.b) (X := c12a) (heap' := [(0, .box (TLsp.c x0)), (2, .box [.own 8 1 0 c87.b.length]), (9, .row 1 5 ((c87.b ++ c12a).map c_u8))]) (next' := 10) rfl rfl rfl rfl elems_ro (by ((try simp only [List.length_append, List.length_cons, List.length_nil, List.length_map, decide_eq_true_eq, decide_eq_false_iff_not] at *) <;> omega)) (by ((try simp only [List.length_append, List.length_cons, List.length_nil, List.length_map, decide_eq_true_eq, decide_eq_false_iff_not] at *) <;> omega)) rfl rfl rfl rfl ?_
        iterate 2 refine GX.m rfl ?_
        refine GX.done ?_
        refine WK.ret ?_
        subst hR
        exact RetQ.fr [9] (.inr rfl) rfl rfl (viewGo_cons (view_rowT rfl rfl) (viewGo_cons rfl viewGo_nil)) rfl
       ·rw [hb7]; try simp only [hb7, bb] at hR
        refine WK.condT rfl ?_
        refine WK.regx mixed ?_
        refine GX.m rfl ?_
        refine GX.done ?_
        refine WK.sr mixed ?_
        refine GX.m rfl ?_
        generalize hc53 : F73_pdu_begin 20 = c53 at hR
        have hpo0_c53 := post_begin 20; rw [hc53] at hpo0_c53
        try dsimp only at hR
        refine GX.callx (r' := .own 1 1 0 c53.length) (heap' := [(0, .box (TLsp.c x0)), (1, .row 1 5 (c53.map c_u8))]) (next' := 2) [] [] rfl rfl rfl rfl rfl rfl (f73_ok 20 _ hc53) (.inl rfl) rfl rfl rfl ?_
        refine GX.q (.agg [.own 1 1 0 c53.length]) ?_
        refine GX.step (v' := .ptr 2 0) (heap' := [(0, .box (TLsp.c x0)), (1, .row 1 5 (c53.map c_u8)), (2, .box [.own 1 1 0 c53.length])]) (next' := 3) rfl rfl rfl rfl rfl rfl rfl ?_
        refine GX.m rfl ?_
        refine GX.done ?_
        refine WK.sr mixed ?_
        iterate 2 refine GX.m rfl ?_
        refine GX.q (.int .u64 (IntKind.u64.wrap (IntKind.i64.wrap (c15 + (c12a.length : Int))))) ?_
        generalize hc59 : F74_pdu_page_put (⟨c53⟩ : TPage) (IntKind.u64.wrap (IntKind.i64.wrap (c15 + (c12a.length : Int)))) 2 = c59 at hR
        have hpo0_c59 := post_put (⟨c53⟩ : TPage) (IntKind.u64.wrap (IntKind.i64.wrap (c15 + (c12a.length : Int)))) 2 (by omega) (by omega); rw [hc59] at hpo0_c59
        try dsimp only at hR
        refine GX.callx (r' := .tup []) (heap' := [(0, .box (TLsp.c x0)), (2, .box [.own 3 1 0 c59.b.length]), (3, .row 1 5 (c59.b.map c_u8))]) (next' := 4) [2, 1] [] rfl rfl rfl rfl rfl rfl (f74_ok (⟨c53⟩ : TPage) (IntKind.u64.wrap (IntKind.i64.wrap (c15 + (c12a.length : Int)))) 2 (by omega) (by omega) (by ((try simp only [List.length_append, List.length_cons, List.length_nil, List.length_map, decide_eq_true_eq, decide_eq_false_iff_not] at *) <;> omega)) _ hc59) (.inl rfl) rfl rfl rfl ?_
        refine GX.done ?_
        refine WK.sr mixed ?_
        refine GX.m rfl ?_
        refine GX.q (.ptr 0 1) ?_
        refine GX.q (.int .i64 x0.Life) ?_
        refine GX.q (.int .u64 (IntKind.u64.wrap x0.Life)) ?_
        generalize hc64 : F74_pdu_page_put c59 (IntKind.u64.wrap x0.Life) 2 = c64 at hR
        have hpo0_c64 := post_put c59 (IntKind.u64.wrap x0.Life) 2 (by omega) (by omega); rw [hc64] at hpo0_c64
        try dsimp only at hR
        refine GX.callx (r' := .tup []) (heap' := [(0, .box (TLsp.c x0)), (2, .box [.own 4 1 0 c64.b.length]), (4, .row 1 5 (c64.b.map c_u8))]) (next' := 5) [2, 3] [] rfl rfl rfl rfl rfl rfl (f74_ok c59 (IntKind.u64.wrap x0.Life) 2 (by omega) (by omega) (by ((try simp only [List.length_append, List.length_cons, List.length_nil, List.length_map, decide_eq_true_eq, decide_eq_false_iff_not] at *) <;> omega)) _ hc64) (.inl rfl) rfl rfl rfl ?_
        refine GX.done ?_
        refine WK.sr mixed ?_
        refine GX.m rfl ?_
        refine GX.q (.ptr 0 2) ?_
        refine GX.q (.int .u64 x0.ID) ?_
        generalize hc68 : F74_pdu_page_put c64 x0.ID 8 = c68 at hR
        have hpo0_c68 := post_put c64 x0.ID 8 (by omega) (by omega); rw [hc68] at hpo0_c68
        try dsimp only at hR
        refine GX.callx (r' := .tup []) (heap' := [(0, .box (TLsp.c x0)), (2, .box [.own 5 1 0 c68.b.length]), (5, .row 1 5 (c68.b.map c_u8))]) (next' := 6) [2, 4] [] rfl rfl rfl rfl rfl rfl (f74_ok c64 x0.ID 8 (by omega) (by omega) (by ((try simp only [List.length_append, List.length_cons, List.length_nil, List.length_map, decide_eq_true_eq, decide_eq_false_iff_not] at *) <;> omega)) _ hc68) (.inl rfl) rfl rfl rfl ?_
        refine GX.done ?_
        refine WK.sr mixed ?_
        refine GX.m rfl ?_
        refine GX.q (.ptr 0 3) ?_
        refine GX.q (.int .u32 x0.Seq) ?_
        refine GX.q (.int .u64 (IntKind.u64.wrap x0.Seq)) ?_
        generalize hc73 : F74_pdu_page_put c68 (IntKind.u64.wrap x0.Seq) 4 = c73 at hR
        have hpo0_c73 := post_put c68 (IntKind.u64.wrap x0.Seq) 4 (by omega) (by omega); rw [hc73] at hpo0_c73
        try dsimp only at hR
        refine GX.callx (r' := .tup []) (heap' := [(0, .box (TLsp.c x0)), (2, .box [.own 6 1 0 c73.b.length]), (6, .row 1 5 (c73.b.map c_u8))]) (next' := 7) [2, 5] [] rfl rfl rfl rfl rfl rfl (f74_ok c68 (IntKind.u64.wrap x0.Seq) 4 (by omega) (by omega) (by ((try simp only [List.length_append, List.length_cons, List.length_nil, List.length_map, decide_eq_true_eq, decide_eq_false_iff_not] at *) <;> omega)) _ hc73) (.inl rfl) rfl rfl rfl ?_
        refine GX.done ?_
        refine WK.sr mixed ?_
        refine GX.m rfl ?_
        refine GX.q (.ptr 0 4) ?_
        refine GX.q (.int .i64 x0.Sum) ?_
        refine GX.q (.int .u64 (IntKind.u64.wrap x0.Sum)) ?_
        generalize hc78 : F74_pdu_page_put c73 (IntKind.u64.wrap x0.Sum) 2 = c78 at hR
        have hpo0_c78 := post_put c73 (IntKind.u64.wrap x0.Sum) 2 (by omega) (by omega); rw [hc78] at hpo0_c78
        try dsimp only at hR
        refine GX.callx (r' := .tup []) (heap' := [(0, .box (TLsp.c x0)), (2, .box [.own 7 1 0 c78.b.length]), (7, .row 1 5 (c78.b.map c_u8))]) (next' := 8) [2, 6] [] rfl rfl rfl rfl rfl rfl (f74_ok c73 (IntKind.u64.wrap x0.Sum) 2 (by omega) (by omega) (by ((try simp only [List.length_append, List.length_cons, List.length_nil, List.length_map, decide_eq_true_eq, decide_eq_false_iff_not] at *) <;> omega)) _ hc78) (.inl rfl) rfl rfl rfl ?_
        refine GX.done ?_
        refine WK.sr mixed ?_
        refine GX.m rfl ?_
        refine GX.q (.ptr 0 5) ?_
        refine GX.q (.int .i64 x0.Bits) ?_
        refine GX.q (.int .i64 (IntKind.i64.wrap (x0.Bits * 2 ^ 2))) ?_
        refine GX.m rfl ?_
        refine GX.q (.int .i64 3) ?_
        refine GX.q (.int .i64 (bit_or .i64 (IntKind.i64.wrap (x0.Bits * 2 ^ 2)) 3)) ?_
        refine GX.q (.int .u64 (IntKind.u64.wrap (bit_or .i64 (IntKind.i64.wrap (x0.Bits * 2 ^ 2)) 3))) ?_
        generalize hc87 : F74_pdu_page_put c78 (IntKind.u64.wrap (bit_or .i64 (IntKind.i64.wrap (x0.Bits * 2 ^ 2)) 3)) 1 = c87 at hR
        have hpo0_c87 := post_put c78 (IntKind.u64.wrap (bit_or .i64 (IntKind.i64.wrap (x0.Bits * 2 ^ 2)) 3)) 1 (by omega) (by omega); rw [hc87] at hpo0_c87
        try dsimp only at hR
        refine GX.callx (r' := .tup []) (heap' := [(0, .box (TLsp.c x0)), (2, .box [.own 8 1 0 c87.b.length]), (8, .row 1 5 (c87.b.map c_u8))]) (next' := 9) [2, 7] [] rfl rfl rfl rfl rfl rfl (f74_ok c78 (IntKind.u64.wrap (bit_or .i64 (IntKind.i64.wrap (x0.Bits * 2 ^ 2)) 3)) 1 (by omega) (by omega) (by ((try simp only [List.length_append, List.length_cons, List.length_nil, List.length_map, decide_eq_true_eq, decide_eq_false_iff_not] at *) <;> omega)) _ hc87) (.inl rfl) rfl rfl rfl ?_
        refine GX.done ?_
        refine WK.sr mixed ?_
        refine GX.m rfl ?_
        iterate 2 refine GX.q (.ptr 2 0) ?_
        refine GX.q (.own 8 1 0 c87.b.length) ?_
        refine GX.m rfl ?_
        refine GX.appT (c := c_u8) (L := c87.b) (X := c12a) (heap' := [(0, .box (TLsp.c x0)), (2, .box [.own 8 1 0 c87.b.length]), (9, .row 1 5 ((c87.b ++ c12a).map c_u8))]) (next' := 10) rfl rfl rfl rfl elems_ro (by ((try simp only [List.length_append, List.length_cons, List.length_nil, List.length_map, decide_eq_true_eq, decide_eq_false_iff_not] at *) <;> omega)) (by ((try simp only [List.length_append, List.length_cons, List.length_nil, List.length_map, decide_eq_true_eq, decide_eq_false_iff_not] at *) <;> omega)) rfl rfl rfl rfl ?_
        iterate 2 refine GX.m rfl ?_
        refine GX.done ?_
        refine WK.ret ?_
        subst hR
        exact RetQ.fr [9] (.inr rfl) rfl rfl (viewGo_cons (view_rowT rfl rfl) (viewGo_cons rfl viewGo_nil)) rfl
      ·rw [hb6]; try simp only [hb6, bb] at hR
       refine WK.condT rfl ?_
       refine WK.sr mixed ?_
       iterate 2 refine GX.m rfl ?_
       refine GX.done ?_
       refine WK.ret ?_
       subst hR
       exact RetQ.frw [] (.inr rfl) rfl rfl rfl (.tup (.cons .nil .refl))

theorem f48_ok (b0 : TBase) (x1 : TLsp) (hp0 : x1.Things.length ≤ 100) (R : Bool) (hR : F48_link_Base_isOf b0 x1 = R) : FnOk Try.prog 48 [.agg (TBase.c b0), .agg (TLsp.c x1)] [] 0 (.bool R) [] 0 := by
 refine FnOk.wk i48 rfl rfl ?_
 unfold F48_link_Base_isOf at hR
 change WK _ _ _ [ac48] _ ⟨[(0, .agg (TBase.c b0)), (1, .agg (TLsp.c x1))], [], 0⟩
 unfold ac48
 refine WK.sr mixed ?_
 refine GX.step (v' := .ptr 0 0) (heap' := [(0, .box (TBase.c b0))]) (next' := 1) rfl rfl rfl rfl rfl rfl rfl ?_
 refine GX.step (v' := .ptr 1 0) (heap' := [(0, .box (TBase.c b0)), (1, .box (TLsp.c x1))]) (next' := 2) rfl rfl rfl rfl rfl rfl rfl ?_
 refine GX.m rfl ?_
 refine GX.done ?_
 refine WK.sr mixed ?_
 refine GX.q (.agg (TLsp.c x1)) ?_
 generalize hc9 : F61_pdu_PutLsp x1 = c9 at hR
 obtain ⟨c9a, c9b⟩ := c9; try dsimp only at hR
 refine GX.callp (r := .tup [.ro 1 (c9a.map c_u8), .int .i64 c9b]) rfl rfl rfl (f61_ok x1 (by omega) _ hc9) rfl rfl ?_
 refine GX.m rfl ?_
 refine GX.q (.ro 1 (c9a.map c_u8)) ?_
 refine GX.q (.int .i64 c9b) ?_
 iterate 2 refine GX.m rfl ?_
 refine GX.done ?_
 refine WK.sr mixed ?_
 refine GX.m rfl ?_
 refine GX.q (.bool (decide (c9b = 0))) ?_
 refine GX.m rfl ?_
 rcases bool_two (decide (c9b = 0)) with hb1 | hb1
 ·rw [hb1]; try simp only [hb1, bb] at hR
  iterate 5 refine GX.skip rfl rfl ?_
  refine GX.q (.bool false) ?_
  refine GX.m rfl ?_
  refine GX.done ?_
  refine WK.ret ?_
  subst hR
  exact RetQ.fr [] (.inr rfl) rfl rfl rfl rfl
 ·rw [hb1]; try simp only [hb1, bb] at hR
  refine GX.q (.ptr 1 0) ?_
  refine GX.q (.int .i64 x1.Level) ?_
  refine GX.q (.ptr 0 0) ?_
  refine GX.q (.int .i64 b0.Level) ?_
  iterate 2 refine GX.q (.bool (decide (x1.Level = b0.Level))) ?_
  refine GX.m rfl ?_
  refine GX.done ?_
  refine WK.ret ?_
  subst hR
  exact RetQ.fr [] (.inr rfl) rfl rfl rfl rfl

theorem f62_ok (x0 : List TLsp) (target1 : Int) (gcmp2 : FuncId) (gcmp2f gcmp2c : List PVal) (hcmp2 : TLsp → Int → Int) (gcmp2k : PVal.closed.go gcmp2f = true ∧ PVal.closed.go gcmp2c = true) (gcmp2o : ∀ (y0 : TLsp) (y1 : Int) (R : Int), hcmp2 y0 y1 = R → FnOk Try.prog gcmp2 (gcmp2f ++ [.agg (TLsp.c y0), .int .u64 y1] ++ gcmp2c) [] 0 (.int .i64 R) [] 0) (R : Int × Bool) (hR : F62_slices_BinarySearchFunc x0 target1 hcmp2 = R) : FnOk Try.prog 62 [.ro 7 (x0.map TLsp.c), .int .u64 target1, .fn gcmp2 gcmp2f gcmp2c] [] 0 (.tup [.int .i64 R.1, .bool R.2]) [] 0 := by
 refine FnOk.wk i62 rfl rfl ?_
 unfold F62_slices_BinarySearchFunc at hR
 change WK _ _ _ [ac62] _ ⟨[(0, .ro 7 (x0.map TLsp.c)), (1, .int .u64 target1), (2, .fn gcmp2 gcmp2f gcmp2c)], [], 0⟩
 unfold ac62
 refine WK.sr mixed ?_
 iterate 2 refine GX.m rfl ?_
 refine GX.done ?_
 refine WK.sr mixed ?_
 refine GX.m rfl ?_
 refine GX.pure (v' := .int .i64 (x0.length : Int)) rfl rfl rfl rfl (len_map _ _) ?_
 refine GX.m rfl ?_
 refine GX.done ?_
 refine WK.sr mixed ?_
 iterate 3 refine GX.m rfl ?_
 refine GX.done ?_
 refine WK.seq ?_
 refine WK.len (t := 0) rfl (by simp) (fun hln0_10 => ?_)
 rw [List.length_map] at hln0_10
 generalize hZ_10 : F62_slices_BinarySearchFunc_l1 x0 target1 hcmp2 (((x0.length : Int) - 0).toNat + 1) 0 (x0.length : Int) = Z_10 at hR
 refine WK.forK (fun k s => ∃ (i9 : Int) (j10 : Int), (j10 - i9).toNat < k ∧ 0 ≤ i9 ∧ i9 ≤ j10 ∧ j10 ≤ (x0.length : Int) ∧ F62_slices_BinarySearchFunc_l1 x0 target1 hcmp2 k i9 j10 = Z_10 ∧ s = ⟨[(0, .ro 7 (x0.map TLsp.c)), (1, .int .u64 target1), (2, .fn gcmp2 gcmp2f gcmp2c), (8, .int .i64 (x0.length : Int)), (9, .int .i64 i9), (10, .int .i64 j10)], [], 0⟩) (((x0.length : Int) - 0).toNat + 1) ⟨⟨[(0, .ro 7 (x0.map TLsp.c)), (1, .int .u64 target1), (2, .fn gcmp2 gcmp2f gcmp2c), (8, .int .i64 (x0.length : Int)), (9, .int .i64 0), (10, .int .i64 (x0.length : Int))], [], 0⟩, Conv.keep [] [] [0, 1, 2, 8, 9, 10] rfl rfl (viewE_cons rfl rfl (viewE_cons rfl rfl (viewE_cons rfl (viewP_fnc gcmp2k) (viewE_cons rfl rfl (viewE_cons rfl rfl (viewE_cons rfl rfl viewE_nil)))))) rfl rfl, 0, (x0.length : Int), Nat.lt_succ_self _, (by first | assumption | omega | ((try simp only [decide_eq_true_eq, decide_eq_false_iff_not, List.length_set, List.length_append, List.length_cons, List.length_nil] at *) <;> first | omega | (rw [mid_eq (by omega) (by omega) (by omega)]; omega) | (rw [mid_eq (by omega) (by omega) (by omega), wrap64_of (by omega) (by omega)]; omega) | (rw [wrap64_of (by omega) (by omega)]; omega))), (by first | assumption | omega | ((try simp only [decide_eq_true_eq, decide_eq_false_iff_not, List.length_set, List.length_append, List.length_cons, List.length_nil] at *) <;> first | omega | (rw [mid_eq (by omega) (by omega) (by omega)]; omega) | (rw [mid_eq (by omega) (by omega) (by omega), wrap64_of (by omega) (by omega)]; omega) | (rw [wrap64_of (by omega) (by omega)]; omega))), (by first | assumption | omega | ((try simp only [decide_eq_true_eq, decide_eq_false_iff_not, List.length_set, List.length_append, List.length_cons, List.length_nil] at *) <;> first | omega | (rw [mid_eq (by omega) (by omega) (by omega)]; omega) | (rw [mid_eq (by omega) (by omega) (by omega), wrap64_of (by omega) (by omega)]; omega) | (rw [wrap64_of (by omega) (by omega)]; omega))), hZ_10, rfl⟩ ?_
 rintro k10 _ ⟨i9, j10, hfu10, hinv10_w0, hinv10_w1, hinv10_w2, hL_10, rfl⟩ again_10 out_10 Q_10 hagain_10 hout_10 hQ_10
 obtain ⟨f10, rfl⟩ : ∃ f, k10 = f + 1 := ⟨k10 - 1, by omega⟩
 unfold F62_slices_BinarySearchFunc_l1 at hL_10; try dsimp only at hL_10
 refine WK.seq ?_
 refine WK.sr mixed ?_
 iterate 2 refine GX.m rfl ?_
 refine GX.q (.bool (decide (i9 < j10))) ?_
 refine GX.done ?_
 rcases bool_two (decide (i9 < j10)) with hb11 | hb11
 ·rw [hb11]; try simp only [hb11, bb] at hL_10
  refine WK.condF rfl ?_
  refine WK.exit ?_
  refine QF.exit (hout_10 _ ?_)
  subst hL_10
  try dsimp only [cond_true, cond_false] at hR
  refine WK.sr mixed ?_
  iterate 3 refine GX.m rfl ?_
  refine GX.q (.bool (decide (i9 < (x0.length : Int)))) ?_
  refine GX.m rfl ?_
  rcases bool_two (decide (i9 < (x0.length : Int))) with hb12 | hb12
  ·rw [hb12]; try simp only [hb12, bb] at hR
   iterate 8 refine GX.skip rfl rfl ?_
   refine GX.q (.bool false) ?_
   iterate 2 refine GX.m rfl ?_
   refine GX.done ?_
   refine WK.ret ?_
   subst hR
   exact RetQ.fr [] (.inr rfl) rfl rfl rfl rfl
  ·rw [hb12]; try simp only [hb12, bb] at hR
   iterate 3 refine GX.m rfl ?_
   refine GX.idxT (c := TLsp.c) (x := (x0.getD i9.toNat default)) rfl rfl rfl (by omega) (getD_at (by ((try simp only [decide_eq_true_eq] at *); first | omega | (rw [wrap64_of (by omega) (by omega)]; omega)))) ?_
   refine GX.q (.agg [.int .i64 ((x0.getD i9.toNat default).Level), .int .i64 ((x0.getD i9.toNat default).Life), .int .u64 ((x0.getD i9.toNat default).ID), .int .u32 ((x0.getD i9.toNat default).Seq), .int .i64 ((x0.getD i9.toNat default).Sum), .int .i64 ((x0.getD i9.toNat default).Bits), .ro 2 (((x0.getD i9.toNat default).Things).map TThing.c)]) ?_
   refine GX.m rfl ?_
   generalize hc46 : hcmp2 (x0.getD i9.toNat default) target1 = c46 at hR
   try dsimp only at hR
   refine GX.callvp (r := .int .i64 c46) rfl rfl rfl (gcmp2o (x0.getD i9.toNat default) target1 _ hc46) (closed3 gcmp2k.1 rfl gcmp2k.2) rfl ?_
   iterate 2 refine GX.q (.bool (decide (c46 = 0))) ?_
   iterate 2 refine GX.m rfl ?_
   refine GX.done ?_
   refine WK.ret ?_
   subst hR
   exact RetQ.fr [] (.inr rfl) rfl rfl rfl rfl
 ·rw [hb11]; try simp only [hb11, bb] at hL_10
  refine WK.condT rfl ?_
  refine WK.skip ?_
  refine WK.blockK (fun _ hK13 => ?_)
  refine WK.sr mixed ?_
  iterate 2 refine GX.m rfl ?_
  refine GX.q (.int .i64 (IntKind.i64.wrap (i9 + j10))) ?_
  refine GX.q (.int .u64 (IntKind.u64.wrap (IntKind.i64.wrap (i9 + j10)))) ?_
  refine GX.q (.int .u64 (Int.fdiv (IntKind.u64.wrap (IntKind.i64.wrap (i9 + j10))) (2 ^ 1))) ?_
  refine GX.q (.int .i64 (IntKind.i64.wrap (Int.fdiv (IntKind.u64.wrap (IntKind.i64.wrap (i9 + j10))) (2 ^ 1)))) ?_
  refine GX.m rfl ?_
  refine GX.done ?_
  refine WK.sr mixed ?_
  iterate 3 refine GX.m rfl ?_
  refine GX.idxT (c := TLsp.c) (x := (x0.getD (IntKind.i64.wrap (Int.fdiv (IntKind.u64.wrap (IntKind.i64.wrap (i9 + j10))) (2 ^ 1))).toNat default)) rfl rfl rfl (by ((try simp only [decide_eq_true_eq] at *); rw [mid_eq (by omega) (by omega) (by omega)]; omega)) (getD_at (by ((try simp only [decide_eq_true_eq] at *); rw [mid_eq (by omega) (by omega) (by omega)]; omega))) ?_
  refine GX.q (.agg [.int .i64 ((x0.getD (IntKind.i64.wrap (Int.fdiv (IntKind.u64.wrap (IntKind.i64.wrap (i9 + j10))) (2 ^ 1))).toNat default).Level), .int .i64 ((x0.getD (IntKind.i64.wrap (Int.fdiv (IntKind.u64.wrap (IntKind.i64.wrap (i9 + j10))) (2 ^ 1))).toNat default).Life), .int .u64 ((x0.getD (IntKind.i64.wrap (Int.fdiv (IntKind.u64.wrap (IntKind.i64.wrap (i9 + j10))) (2 ^ 1))).toNat default).ID), .int .u32 ((x0.getD (IntKind.i64.wrap (Int.fdiv (IntKind.u64.wrap (IntKind.i64.wrap (i9 + j10))) (2 ^ 1))).toNat default).Seq), .int .i64 ((x0.getD (IntKind.i64.wrap (Int.fdiv (IntKind.u64.wrap (IntKind.i64.wrap (i9 + j10))) (2 ^ 1))).toNat default).Sum), .int .i64 ((x0.getD (IntKind.i64.wrap (Int.fdiv (IntKind.u64.wrap (IntKind.i64.wrap (i9 + j10))) (2 ^ 1))).toNat default).Bits), .ro 2 (((x0.getD (IntKind.i64.wrap (Int.fdiv (IntKind.u64.wrap (IntKind.i64.wrap (i9 + j10))) (2 ^ 1))).toNat default).Things).map TThing.c)]) ?_
  refine GX.m rfl ?_
  generalize hc30 : hcmp2 (x0.getD (IntKind.i64.wrap (Int.fdiv (IntKind.u64.wrap (IntKind.i64.wrap (i9 + j10))) (2 ^ 1))).toNat default) target1 = c30 at hL_10
  try dsimp only at hL_10
  refine GX.callvp (r := .int .i64 c30) rfl rfl rfl (gcmp2o (x0.getD (IntKind.i64.wrap (Int.fdiv (IntKind.u64.wrap (IntKind.i64.wrap (i9 + j10))) (2 ^ 1))).toNat default) target1 _ hc30) (closed3 gcmp2k.1 rfl gcmp2k.2) rfl ?_
  refine GX.q (.bool (decide (c30 < 0))) ?_
  refine GX.done ?_
  rcases bool_two (decide (c30 < 0)) with hb14 | hb14
  ·rw [hb14]; try simp only [hb14, bb] at hL_10
   refine WK.condF rfl ?_
   refine WK.regx mixed ?_
   iterate 2 refine GX.m rfl ?_
   refine GX.done ?_
   refine WK.nil (QF.normal (hK13 _ ?_))
   refine WK.nil (QF.normal ?_)
   exact hagain_10 _ f10 ⟨[(0, .ro 7 (x0.map TLsp.c)), (1, .int .u64 target1), (2, .fn gcmp2 gcmp2f gcmp2c), (8, .int .i64 (x0.length : Int)), (9, .int .i64 i9), (10, .int .i64 (IntKind.i64.wrap (Int.fdiv (IntKind.u64.wrap (IntKind.i64.wrap (i9 + j10))) (2 ^ 1))))], [], 0⟩ (Nat.lt_succ_self _) (Conv.keep [] [] [0, 1, 2, 8, 9, 10] rfl rfl (viewE_cons rfl rfl (viewE_cons rfl rfl (viewE_cons rfl (viewP_fnc gcmp2k) (viewE_cons rfl rfl (viewE_cons rfl rfl (viewE_cons rfl rfl viewE_nil)))))) rfl rfl) ⟨i9, (IntKind.i64.wrap (Int.fdiv (IntKind.u64.wrap (IntKind.i64.wrap (i9 + j10))) (2 ^ 1))), (by first | assumption | omega | ((try simp only [decide_eq_true_eq, decide_eq_false_iff_not, List.length_set, List.length_append, List.length_cons, List.length_nil] at *) <;> first | omega | (rw [mid_eq (by omega) (by omega) (by omega)]; omega) | (rw [mid_eq (by omega) (by omega) (by omega), wrap64_of (by omega) (by omega)]; omega) | (rw [wrap64_of (by omega) (by omega)]; omega))), (by first | assumption | omega | ((try simp only [decide_eq_true_eq, decide_eq_false_iff_not, List.length_set, List.length_append, List.length_cons, List.length_nil] at *) <;> first | omega | (rw [mid_eq (by omega) (by omega) (by omega)]; omega) | (rw [mid_eq (by omega) (by omega) (by omega), wrap64_of (by omega) (by omega)]; omega) | (rw [wrap64_of (by omega) (by omega)]; omega))), (by first | assumption | omega | ((try simp only [decide_eq_true_eq, decide_eq_false_iff_not, List.length_set, List.length_append, List.length_cons, List.length_nil] at *) <;> first | omega | (rw [mid_eq (by omega) (by omega) (by omega)]; omega) | (rw [mid_eq (by omega) (by omega) (by omega), wrap64_of (by omega) (by omega)]; omega) | (rw [wrap64_of (by omega) (by omega)]; omega))), (by first | assumption | omega | ((try simp only [decide_eq_true_eq, decide_eq_false_iff_not, List.length_set, List.length_append, List.length_cons, List.length_nil] at *) <;> first | omega | (rw [mid_eq (by omega) (by omega) (by omega)]; omega) | (rw [mid_eq (by omega) (by omega) (by omega), wrap64_of (by omega) (by omega)]; omega) | (rw [wrap64_of (by omega) (by omega)]; omega))), hL_10, rfl⟩
  ·rw [hb14]; try simp only [hb14, bb] at hL_10
   refine WK.condT rfl ?_
   refine WK.regx mixed ?_
   refine GX.m rfl ?_
   refine GX.q (.int .i64 (IntKind.i64.wrap ((IntKind.i64.wrap (Int.fdiv (IntKind.u64.wrap (IntKind.i64.wrap (i9 + j10))) (2 ^ 1))) + 1))) ?_
   refine GX.m rfl ?_
   refine GX.done ?_
   refine WK.nil (QF.normal (hK13 _ ?_))
   refine WK.nil (QF.normal ?_)
   exact hagain_10 _ f10 ⟨[(0, .ro 7 (x0.map TLsp.c)), (1, .int .u64 target1), (2, .fn gcmp2 gcmp2f gcmp2c), (8, .int .i64 (x0.length : Int)), (9, .int .i64 (IntKind.i64.wrap ((IntKind.i64.wrap (Int.fdiv (IntKind.u64.wrap (IntKind.i64.wrap (i9 + j10))) (2 ^ 1))) + 1))), (10, .int .i64 j10)], [], 0⟩ (Nat.lt_succ_self _) (Conv.keep [] [] [0, 1, 2, 8, 9, 10] rfl rfl (viewE_cons rfl rfl (viewE_cons rfl rfl (viewE_cons rfl (viewP_fnc gcmp2k) (viewE_cons rfl rfl (viewE_cons rfl rfl (viewE_cons rfl rfl viewE_nil)))))) rfl rfl) ⟨(IntKind.i64.wrap ((IntKind.i64.wrap (Int.fdiv (IntKind.u64.wrap (IntKind.i64.wrap (i9 + j10))) (2 ^ 1))) + 1)), j10, (by first | assumption | omega | ((try simp only [decide_eq_true_eq, decide_eq_false_iff_not, List.length_set, List.length_append, List.length_cons, List.length_nil] at *) <;> first | omega | (rw [mid_eq (by omega) (by omega) (by omega)]; omega) | (rw [mid_eq (by omega) (by omega) (by omega), wrap64_of (by omega) (by omega)]; omega) | (rw [wrap64_of (by omega) (by omega)]; omega))), (by first | assumption | omega | ((try simp only [decide_eq_true_eq, decide_eq_false_iff_not, List.length_set, List.length_append, List.length_cons, List.length_nil] at *) <;> first | omega | (rw [mid_eq (by omega) (by omega) (by omega)]; omega) | (rw [mid_eq (by omega) (by omega) (by omega), wrap64_of (by omega) (by omega)]; omega) | (rw [wrap64_of (by omega) (by omega)]; omega))), (by first | assumption | omega | ((try simp only [decide_eq_true_eq, decide_eq_false_iff_not, List.length_set, List.length_append, List.length_cons, List.length_nil] at *) <;> first | omega | (rw [mid_eq (by omega) (by omega) (by omega)]; omega) | (rw [mid_eq (by omega) (by omega) (by omega), wrap64_of (by omega) (by omega)]; omega) | (rw [wrap64_of (by omega) (by omega)]; omega))), (by first | assumption | omega | ((try simp only [decide_eq_true_eq, decide_eq_false_iff_not, List.length_set, List.length_append, List.length_cons, List.length_nil] at *) <;> first | omega | (rw [mid_eq (by omega) (by omega) (by omega)]; omega) | (rw [mid_eq (by omega) (by omega) (by omega), wrap64_of (by omega) (by omega)]; omega) | (rw [wrap64_of (by omega) (by omega)]; omega))), hL_10, rfl⟩

theorem f75_ok (x0 : Int) (R : Bool) (hR : F75_cmp_isNaN x0 = R) : FnOk Try.prog 75 [.int .u64 x0] [] 0 (.bool R) [] 0 := by
 refine FnOk.wk i75 rfl rfl ?_
 unfold F75_cmp_isNaN at hR
 change WK _ _ _ [ac75] _ ⟨[(0, .int .u64 x0)], [], 0⟩
 unfold ac75
 refine WK.sr mixed ?_
 refine GX.m rfl ?_
 refine GX.done ?_
 refine WK.sr mixed ?_
 iterate 2 refine GX.m rfl ?_
 refine GX.q (.bool (!decide (x0 = x0))) ?_
 refine GX.m rfl ?_
 refine GX.done ?_
 refine WK.ret ?_
 subst hR
 exact RetQ.fr [] (.inr rfl) rfl rfl rfl rfl

theorem f64_ok (x0 : Int) (y1 : Int) (R : Int) (hR : F64_cmp_Compare x0 y1 = R) : FnOk Try.prog 64 [.int .u64 x0, .int .u64 y1] [] 0 (.int .i64 R) [] 0 := by
 refine FnOk.wk i64 rfl rfl ?_
 unfold F64_cmp_Compare at hR
 change WK _ _ _ [ac64] _ ⟨[(0, .int .u64 x0), (1, .int .u64 y1)], [], 0⟩
 unfold ac64
 refine WK.sr mixed ?_
 refine GX.m rfl ?_
 refine GX.done ?_
 refine WK.sr mixed ?_
 refine GX.m rfl ?_
 generalize hc8 : F75_cmp_isNaN x0 = c8 at hR
 try dsimp only at hR
 refine GX.callp (r := .bool c8) rfl rfl rfl (f75_ok x0 _ hc8) rfl rfl ?_
 refine GX.m rfl ?_
 refine GX.done ?_
 refine WK.sr mixed ?_
 refine GX.m rfl ?_
 generalize hc10 : F75_cmp_isNaN y1 = c10 at hR
 try dsimp only at hR
 refine GX.callp (r := .bool c10) rfl rfl rfl (f75_ok y1 _ hc10) rfl rfl ?_
 refine GX.m rfl ?_
 refine GX.done ?_
 refine WK.seq ?_
 refine WK.sr mixed ?_
 refine GX.m rfl ?_
 refine GX.done ?_
 rcases bool_two (c8) with hb1 | hb1
 ·rw [hb1]; try simp only [hb1, bb] at hR
  refine WK.condF rfl ?_
  refine WK.skip ?_
  refine WK.seq ?_
  refine WK.sr mixed ?_
  refine GX.m rfl ?_
  refine GX.done ?_
  rcases bool_two (c10) with hb2 | hb2
  ·rw [hb2]; try simp only [hb2, bb] at hR
   refine WK.condF rfl ?_
   refine WK.skip ?_
   refine WK.seq ?_
   refine WK.sr mixed ?_
   iterate 2 refine GX.m rfl ?_
   refine GX.q (.bool (decide (x0 < y1))) ?_
   refine GX.done ?_
   rcases bool_two (decide (x0 < y1)) with hb3 | hb3
   ·rw [hb3]; try simp only [hb3, bb] at hR
    refine WK.condF rfl ?_
    refine WK.skip ?_
    refine WK.seq ?_
    refine WK.sr mixed ?_
    iterate 2 refine GX.m rfl ?_
    refine GX.q (.bool (decide (y1 < x0))) ?_
    refine GX.done ?_
    rcases bool_two (decide (y1 < x0)) with hb4 | hb4
    ·rw [hb4]; try simp only [hb4, bb] at hR
     refine WK.condF rfl ?_
     refine WK.skip ?_
     refine WK.sr mixed ?_
     refine GX.m rfl ?_
     refine GX.done ?_
     refine WK.ret ?_
     subst hR
     exact RetQ.fr [] (.inr rfl) rfl rfl rfl rfl
    ·rw [hb4]; try simp only [hb4, bb] at hR
     refine WK.condT rfl ?_
     refine WK.sr mixed ?_
     refine GX.m rfl ?_
     refine GX.done ?_
     refine WK.ret ?_
     subst hR
     exact RetQ.fr [] (.inr rfl) rfl rfl rfl rfl
   ·rw [hb3]; try simp only [hb3, bb] at hR
    refine WK.condT rfl ?_
    refine WK.sr mixed ?_
    refine GX.m rfl ?_
    refine GX.done ?_
    refine WK.ret ?_
    subst hR
    exact RetQ.fr [] (.inr rfl) rfl rfl rfl rfl
  ·rw [hb2]; try simp only [hb2, bb] at hR
   refine WK.condT rfl ?_
   refine WK.sr mixed ?_
   refine GX.m rfl ?_
   refine GX.done ?_
   refine WK.ret ?_
   subst hR
   exact RetQ.fr [] (.inr rfl) rfl rfl rfl rfl
 ·rw [hb1]; try simp only [hb1, bb] at hR
  refine WK.condT rfl ?_
  refine WK.seq ?_
  refine WK.sr mixed ?_
  refine GX.m rfl ?_
  refine GX.done ?_
  rcases bool_two (c10) with hb5 | hb5
  ·rw [hb5]; try simp only [hb5, bb] at hR
   refine WK.condF rfl ?_
   refine WK.skip ?_
   refine WK.sr mixed ?_
   refine GX.m rfl ?_
   refine GX.done ?_
   refine WK.ret ?_
   subst hR
   exact RetQ.fr [] (.inr rfl) rfl rfl rfl rfl
  ·rw [hb5]; try simp only [hb5, bb] at hR
   refine WK.condT rfl ?_
   refine WK.sr mixed ?_
   refine GX.m rfl ?_
   refine GX.done ?_
   refine WK.ret ?_
   subst hR
   exact RetQ.fr [] (.inr rfl) rfl rfl rfl rfl

theorem f63_ok (x0 : TLsp) (id1 : Int) (R : Int) (hR : F63_link_Base_at_1 x0 id1 = R) : FnOk Try.prog 63 [.agg (TLsp.c x0), .int .u64 id1] [] 0 (.int .i64 R) [] 0 := by
 refine FnOk.wk i63 rfl rfl ?_
 unfold F63_link_Base_at_1 at hR
 change WK _ _ _ [ac63] _ ⟨[(0, .agg (TLsp.c x0)), (1, .int .u64 id1)], [], 0⟩
 unfold ac63
 refine WK.sr mixed ?_
 refine GX.step (v' := .ptr 0 0) (heap' := [(0, .box (TLsp.c x0))]) (next' := 1) rfl rfl rfl rfl rfl rfl rfl ?_
 refine GX.m rfl ?_
 refine GX.done ?_
 refine WK.sr mixed ?_
 refine GX.q (.ptr 0 2) ?_
 refine GX.q (.int .u64 x0.ID) ?_
 refine GX.m rfl ?_
 generalize hc8 : F64_cmp_Compare x0.ID id1 = c8 at hR
 try dsimp only at hR
 refine GX.callp (r := .int .i64 c8) rfl rfl rfl (f64_ok x0.ID id1 _ hc8) rfl rfl ?_
 refine GX.m rfl ?_
 refine GX.done ?_
 refine WK.ret ?_
 subst hR
 exact RetQ.fr [] (.inr rfl) rfl rfl rfl rfl

theorem f49_ok (b0 : TBase) (id1 : Int) (R : Int × Bool) (hR : F49_link_Base_at b0 id1 = R) : FnOk Try.prog 49 [.agg (TBase.c b0), .int .u64 id1] [] 0 (.tup [.int .i64 R.1, .bool R.2]) [] 0 := by
 refine FnOk.wk i49 rfl rfl ?_
 unfold F49_link_Base_at at hR
 change WK _ _ _ [ac49] _ ⟨[(0, .agg (TBase.c b0)), (1, .int .u64 id1)], [], 0⟩
 unfold ac49
 refine WK.sr mixed ?_
 refine GX.step (v' := .ptr 0 0) (heap' := [(0, .box (TBase.c b0))]) (next' := 1) rfl rfl rfl rfl rfl rfl rfl ?_
 iterate 2 refine GX.m rfl ?_
 refine GX.done ?_
 refine WK.sr mixed ?_
 refine GX.q (.ptr 0 2) ?_
 refine GX.q (.ro 7 (b0.L.map TLsp.c)) ?_
 refine GX.m rfl ?_
 generalize hc9 : F62_slices_BinarySearchFunc b0.L id1 (fun y0 y1 => F63_link_Base_at_1 y0 y1) = c9 at hR
 obtain ⟨c9a, c9b⟩ := c9; try dsimp only at hR
 refine GX.callp (r := .tup [.int .i64 c9a, .bool c9b]) rfl rfl rfl (f62_ok b0.L id1 63 [] [] (fun y0 y1 => F63_link_Base_at_1 y0 y1) ⟨rfl, rfl⟩ (fun y0 y1 _ hr => f63_ok y0 y1 _ hr) _ hc9) rfl rfl ?_
 refine GX.q (.int .i64 c9a) ?_
 refine GX.q (.bool c9b) ?_
 iterate 2 refine GX.m rfl ?_
 refine GX.done ?_
 refine WK.ret ?_
 subst hR
 exact RetQ.fr [] (.inr rfl) rfl rfl rfl rfl

theorem f21_ok (b0 : TBase) (x1 : TLsp) (hp0 : SmB b0) (hp1 : b0.Max ≤ 1000) (hp2 : x1.Things.length ≤ 100) (R : TBase × Int × Int) (hR : F21_link_Put b0 x1 = R) : FnOk Try.prog 21 [.agg (TBase.c b0), .agg (TLsp.c x1)] [] 0 (.tup [.agg (TBase.c R.1), .int .i64 R.2.1, .int .i64 R.2.2]) [] 0 := by
 refine FnOk.wk i21 rfl rfl ?_
 unfold F21_link_Put at hR
 change WK _ _ _ [ac21] _ ⟨[(0, .agg (TBase.c b0)), (1, .agg (TLsp.c x1))], [], 0⟩
 unfold ac21
 refine WK.sr mixed ?_
 refine GX.step (v' := .ptr 0 0) (heap' := [(0, .box (TBase.c b0))]) (next' := 1) rfl rfl rfl rfl rfl rfl rfl ?_
 refine GX.step (v' := .ptr 1 0) (heap' := [(0, .box (TBase.c b0)), (1, .box (TLsp.c x1))]) (next' := 2) rfl rfl rfl rfl rfl rfl rfl ?_
 refine GX.step (v' := .ptr 2 0) (heap' := [(0, .box (TBase.c b0)), (1, .box (TLsp.c x1)), (2, .box [.int .i64 0, .int .i64 0, .nils, .bool false])]) (next' := 3) rfl rfl rfl rfl rfl rfl rfl ?_
 iterate 2 refine GX.m rfl ?_
 refine GX.done ?_
 refine WK.seq ?_
 refine WK.sr mixed ?_
 refine GX.q (.agg (TBase.c b0)) ?_
 refine GX.q (.agg (TLsp.c x1)) ?_
 generalize hc12 : F48_link_Base_isOf b0 x1 = c12 at hR
 try dsimp only at hR
 refine GX.callp (r := .bool c12) rfl rfl rfl (f48_ok b0 x1 (by omega) _ hc12) rfl rfl ?_
 refine GX.q (.bool (!c12)) ?_
 refine GX.done ?_
 rcases bool_two (c12) with hb1 | hb1
 ·rw [hb1]; try simp only [hb1, bb] at hR
  refine WK.condT rfl ?_
  refine WK.sr mixed ?_
  refine GX.q (.agg (TBase.c b0)) ?_
  refine GX.step0 (heap' := [(0, .box (TBase.c b0)), (1, .box (TLsp.c x1)), (2, .box (TBase.c b0))]) (next' := 3) rfl rfl rfl rfl rfl ?_
  iterate 2 refine GX.m rfl ?_
  refine GX.done ?_
  refine WK.ret ?_
  subst hR
  exact RetQ.fr [] (.inr rfl) rfl rfl rfl rfl
 ·rw [hb1]; try simp only [hb1, bb] at hR
  refine WK.condF rfl ?_
  refine WK.skip ?_
  refine WK.sr mixed ?_
  refine GX.q (.agg (TBase.c b0)) ?_
  refine GX.q (.ptr 1 2) ?_
  refine GX.q (.int .u64 x1.ID) ?_
  generalize hc19 : F49_link_Base_at b0 x1.ID = c19 at hR
  have hpo0_c19 := post_at b0 x1.ID (by omega); rw [hc19] at hpo0_c19
  have hpo1_c19 := post_at2 b0 x1.ID (by omega); rw [hc19] at hpo1_c19
  obtain ⟨c19a, c19b⟩ := c19; try dsimp only at hR; try dsimp only at hpo0_c19; try dsimp only at hpo1_c19
  refine GX.callp (r := .tup [.int .i64 c19a, .bool c19b]) rfl rfl rfl (f49_ok b0 x1.ID _ hc19) rfl rfl ?_
  refine GX.m rfl ?_
  refine GX.q (.int .i64 c19a) ?_
  refine GX.q (.bool c19b) ?_
  iterate 2 refine GX.m rfl ?_
  refine GX.done ?_
  refine WK.seq ?_
  refine WK.sr mixed ?_
  refine GX.m rfl ?_
  refine GX.q (.bool (!c19b)) ?_
  refine GX.done ?_
  rcases bool_two (c19b) with hb2 | hb2
  ·rw [hb2]; try simp only [hb2, bb] at hR
   refine WK.condT rfl ?_
   refine WK.seq ?_
   refine WK.sr mixed ?_
   refine GX.q (.ptr 0 2) ?_
   refine GX.q (.ro 7 (b0.L.map TLsp.c)) ?_
   refine GX.pure (v' := .int .i64 (b0.L.length : Int)) rfl rfl rfl rfl (len_map _ _) ?_
   refine GX.q (.ptr 0 1) ?_
   refine GX.q (.int .i64 b0.Max) ?_
   refine GX.q (.bool (decide (b0.Max ≤ (b0.L.length : Int)))) ?_
   refine GX.done ?_
   rcases bool_two (decide (b0.Max ≤ (b0.L.length : Int))) with hb3 | hb3
   ·rw [hb3]; try simp only [hb3, bb] at hR
    refine WK.condF rfl ?_
    refine WK.skip ?_
    refine WK.seq ?_
    refine WK.drawn mixed ?_
    refine RD.q (.ptr 0 2) ?_
    refine RD.q (.ro 7 (b0.L.map TLsp.c)) ?_
    refine RD.callx (r' := .own 3 7 0 b0.L.length) (heap' := [(0, .box (TBase.c b0)), (1, .box (TLsp.c x1)), (2, .box [.int .i64 0, .int .i64 0, .nils, .bool false]), (3, .row 7 34 (b0.L.map TLsp.c))]) (next' := 4) [] [] rfl rfl rfl rfl rfl rfl (clone_okT (c := TLsp.c) mixed i51 b0.L (by decide) (by omega) (by omega)) (.inl rfl) rfl rfl rfl ?_
    refine RD.m rfl ?_
    refine RD.q (.agg (TLsp.c x1)) ?_
    refine RD.step (v' := .own 4 7 0 (([x1] : List TLsp)).length) (heap' := [(0, .box (TBase.c b0)), (1, .box (TLsp.c x1)), (2, .box [.int .i64 0, .int .i64 0, .nils, .bool false]), (3, .row 7 34 (b0.L.map TLsp.c)), (4, .row 7 34 (([x1] : List TLsp).map TLsp.c))]) (next' := 5) rfl rfl rfl rfl rfl rfl rfl ?_
    refine RD.callx (r' := .own 5 7 0 (ins_ b0.L c19a ([x1] : List TLsp)).length) (heap' := [(0, .box (TBase.c b0)), (1, .box (TLsp.c x1)), (2, .box [.int .i64 0, .int .i64 0, .nils, .bool false]), (5, .row 7 34 ((ins_ b0.L c19a ([x1] : List TLsp)).map TLsp.c))]) (next' := 6) [3, 4] [] rfl rfl rfl rfl rfl rfl (insert_okT (c := TLsp.c) (fun _ => rfl) mixed i50 ov50 b0.L ([x1] : List TLsp) c19a rfl rfl (by omega) (by omega) (by (simp; done)) (by ((try simp only [List.length_append, List.length_cons, List.length_nil, List.length_map, decide_eq_true_eq, decide_eq_false_iff_not] at *) <;> omega)) (by ((try simp only [List.length_append, List.length_cons, List.length_nil, List.length_map, decide_eq_true_eq, decide_eq_false_iff_not] at *) <;> omega))) (.inl rfl) rfl rfl rfl ?_
    refine RD.q (.ptr 0 2) ?_
    refine RD.step0 (heap' := [(0, .box [.int .i64 b0.Level, .int .i64 b0.Max, .own 5 7 0 (ins_ b0.L c19a ([x1] : List TLsp)).length, .bool b0.Over]), (1, .box (TLsp.c x1)), (2, .box [.int .i64 0, .int .i64 0, .nils, .bool false]), (5, .row 7 34 ((ins_ b0.L c19a ([x1] : List TLsp)).map TLsp.c))]) (next' := 6) rfl rfl rfl rfl rfl ?_
    refine RD.done rfl ?_
    refine WK.sr mixed ?_
    refine GX.q (.agg [.int .i64 b0.Level, .int .i64 b0.Max, .own 5 7 0 (ins_ b0.L c19a ([x1] : List TLsp)).length, .bool b0.Over]) ?_
    refine GX.step0 (heap' := [(0, .box [.int .i64 b0.Level, .int .i64 b0.Max, .own 5 7 0 (ins_ b0.L c19a ([x1] : List TLsp)).length, .bool b0.Over]), (1, .box (TLsp.c x1)), (2, .box [.int .i64 b0.Level, .int .i64 b0.Max, .own 5 7 0 (ins_ b0.L c19a ([x1] : List TLsp)).length, .bool b0.Over]), (5, .row 7 34 ((ins_ b0.L c19a ([x1] : List TLsp)).map TLsp.c))]) (next' := 6) rfl rfl rfl rfl rfl ?_
    iterate 2 refine GX.m rfl ?_
    refine GX.done ?_
    refine WK.ret ?_
    subst hR
    exact RetQ.fr [5] (.inr rfl) rfl rfl (viewGo_cons (viewP_agg (viewGo_cons rfl (viewGo_cons rfl (viewGo_cons (view_rowT rfl rfl) (viewGo_cons rfl viewGo_nil))))) (viewGo_cons rfl (viewGo_cons rfl viewGo_nil))) rfl
   ·rw [hb3]; try simp only [hb3, bb] at hR
    refine WK.condT rfl ?_
    refine WK.sr mixed ?_
    refine GX.q (.ptr 0 3) ?_
    refine GX.step0 (heap' := [(0, .box [.int .i64 b0.Level, .int .i64 b0.Max, .ro 7 (b0.L.map TLsp.c), .bool true]), (1, .box (TLsp.c x1)), (2, .box [.int .i64 0, .int .i64 0, .nils, .bool false])]) (next' := 3) rfl rfl rfl rfl rfl ?_
    refine GX.done ?_
    refine WK.sr mixed ?_
    refine GX.q (.agg [.int .i64 b0.Level, .int .i64 b0.Max, .ro 7 (b0.L.map TLsp.c), .bool true]) ?_
    refine GX.step0 (heap' := [(0, .box [.int .i64 b0.Level, .int .i64 b0.Max, .ro 7 (b0.L.map TLsp.c), .bool true]), (1, .box (TLsp.c x1)), (2, .box [.int .i64 b0.Level, .int .i64 b0.Max, .ro 7 (b0.L.map TLsp.c), .bool true])]) (next' := 3) rfl rfl rfl rfl rfl ?_
    iterate 2 refine GX.m rfl ?_
    refine GX.done ?_
    refine WK.ret ?_
    subst hR
    exact RetQ.fr [] (.inr rfl) rfl rfl rfl rfl
  ·rw [hb2]; try simp only [hb2, bb] at hR
   try have hq_hpo1_c19 := hpo1_c19 hb2
   refine WK.condF rfl ?_
   refine WK.skip ?_
   refine WK.seq ?_
   refine WK.drawn mixed ?_
   refine RD.q (.agg (TLsp.c x1)) ?_
   generalize hc42 : F14_link_Entry x1 = c42 at hR
   try dsimp only at hR
   refine RD.callp (r := .agg [.int .i64 c42.Life, .int .u64 c42.ID, .int .u32 c42.Seq, .int .i64 c42.Sum]) rfl rfl rfl (f14_ok x1 _ hc42) rfl rfl ?_
   refine RD.q (.ptr 0 2) ?_
   refine RD.q (.ro 7 (b0.L.map TLsp.c)) ?_
   refine RD.m rfl ?_
   refine RD.idxT (c := TLsp.c) (x := (b0.L.getD c19a.toNat default)) rfl rfl rfl (by omega) (getD_at (by omega)) ?_
   refine RD.q (.agg [.int .i64 ((b0.L.getD c19a.toNat default).Level), .int .i64 ((b0.L.getD c19a.toNat default).Life), .int .u64 ((b0.L.getD c19a.toNat default).ID), .int .u32 ((b0.L.getD c19a.toNat default).Seq), .int .i64 ((b0.L.getD c19a.toNat default).Sum), .int .i64 ((b0.L.getD c19a.toNat default).Bits), .ro 2 (((b0.L.getD c19a.toNat default).Things).map TThing.c)]) ?_
   generalize hc48 : F14_link_Entry (b0.L.getD c19a.toNat default) = c48 at hR
   try dsimp only at hR
   refine RD.callp (r := .agg [.int .i64 c48.Life, .int .u64 c48.ID, .int .u32 c48.Seq, .int .i64 c48.Sum]) rfl rfl rfl (f14_ok (b0.L.getD c19a.toNat default) _ hc48) rfl rfl ?_
   generalize hc49 : F8_link_Compare c42 c48 = c49 at hR
   try dsimp only at hR
   refine RD.callp (r := .int .i64 c49) rfl rfl rfl (f8_ok c42 c48 _ hc49) rfl rfl ?_
   refine RD.q (.int .i64 (IntKind.i64.wrap (1 + c49))) ?_
   refine RD.m rfl ?_
   refine RD.done rfl ?_
   refine WK.seq ?_
   refine WK.sr mixed ?_
   refine GX.m rfl ?_
   refine GX.q (.bool (decide (IntKind.i64.wrap (1 + c49) = 2))) ?_
   refine GX.done ?_
   rcases bool_two (decide (IntKind.i64.wrap (1 + c49) = 2)) with hb4 | hb4
   ·rw [hb4]; try simp only [hb4, bb] at hR
    refine WK.condF rfl ?_
    refine WK.skip ?_
    refine WK.sr mixed ?_
    refine GX.q (.agg (TBase.c b0)) ?_
    refine GX.m rfl ?_
    refine GX.step0 (heap' := [(0, .box (TBase.c b0)), (1, .box (TLsp.c x1)), (2, .box (TBase.c b0))]) (next' := 3) rfl rfl rfl rfl rfl ?_
    iterate 2 refine GX.m rfl ?_
    refine GX.done ?_
    refine WK.ret ?_
    subst hR
    exact RetQ.fr [] (.inr rfl) rfl rfl rfl rfl
   ·rw [hb4]; try simp only [hb4, bb] at hR
    refine WK.condT rfl ?_
    refine WK.sr mixed ?_
    refine GX.q (.ptr 0 2) ?_
    refine GX.q (.ro 7 (b0.L.map TLsp.c)) ?_
    refine GX.callx (r' := .own 3 7 0 b0.L.length) (heap' := [(0, .box (TBase.c b0)), (1, .box (TLsp.c x1)), (2, .box [.int .i64 0, .int .i64 0, .nils, .bool false]), (3, .row 7 34 (b0.L.map TLsp.c))]) (next' := 4) [] [] rfl rfl rfl rfl rfl rfl (clone_okT (c := TLsp.c) mixed i51 b0.L (by decide) (by omega) (by omega)) (.inl rfl) rfl rfl rfl ?_
    refine GX.q (.ptr 0 2) ?_
    refine GX.step0 (heap' := [(0, .box [.int .i64 b0.Level, .int .i64 b0.Max, .own 3 7 0 b0.L.length, .bool b0.Over]), (1, .box (TLsp.c x1)), (2, .box [.int .i64 0, .int .i64 0, .nils, .bool false]), (3, .row 7 34 (b0.L.map TLsp.c))]) (next' := 4) rfl rfl rfl rfl rfl ?_
    refine GX.done ?_
    refine WK.regx mixed ?_
    refine GX.q (.ptr 0 2) ?_
    refine GX.q (.own 3 7 0 b0.L.length) ?_
    refine GX.m rfl ?_
    refine GX.q (.agg (TLsp.c x1)) ?_
    refine GX.pure (v' := .eptr 3 7 c19a.toNat 0) rfl rfl rfl (core_idxoT (c := TLsp.c) (L := b0.L) (j := c19a.toNat) rfl (by omega) (by omega) (by exact Nat.le_refl _)) rfl ?_
    refine GX.step0 (heap' := [(0, .box [.int .i64 b0.Level, .int .i64 b0.Max, .own 3 7 0 b0.L.length, .bool b0.Over]), (1, .box (TLsp.c x1)), (2, .box [.int .i64 0, .int .i64 0, .nils, .bool false]), (3, .row 7 34 ((b0.L.set c19a.toNat x1).map TLsp.c))]) (next' := 4) rfl rfl (core_stoT (c := TLsp.c) (L := b0.L) (x := (b0.L.getD c19a.toNat default)) (x' := x1) rfl (getD_at (by omega)) rfl rfl rfl rfl rfl) rfl rfl ?_
    refine GX.done ?_
    refine WK.sr mixed ?_
    refine GX.q (.agg [.int .i64 b0.Level, .int .i64 b0.Max, .own 3 7 0 b0.L.length, .bool b0.Over]) ?_
    refine GX.m rfl ?_
    refine GX.step0 (heap' := [(0, .box [.int .i64 b0.Level, .int .i64 b0.Max, .own 3 7 0 b0.L.length, .bool b0.Over]), (1, .box (TLsp.c x1)), (2, .box [.int .i64 b0.Level, .int .i64 b0.Max, .own 3 7 0 b0.L.length, .bool b0.Over]), (3, .row 7 34 ((b0.L.set c19a.toNat x1).map TLsp.c))]) (next' := 4) rfl rfl rfl rfl rfl ?_
    iterate 2 refine GX.m rfl ?_
    refine GX.done ?_
    refine WK.ret ?_
    subst hR
    exact RetQ.fr [3] (.inr rfl) rfl rfl (viewGo_cons (viewP_agg (viewGo_cons rfl (viewGo_cons rfl (viewGo_cons (view_rowM rfl rfl (by simp)) (viewGo_cons rfl viewGo_nil))))) (viewGo_cons rfl (viewGo_cons rfl viewGo_nil))) rfl

theorem f24_ok (level0 : Int) (most1 : Int) (R : TBase × Int) (hR : F24_link_New level0 most1 = R) : FnOk Try.prog 24 [.int .i64 level0, .int .i64 most1] [] 0 (.tup [.agg (TBase.c R.1), .int .i64 R.2]) [] 0 := by
 refine FnOk.wk i24 rfl rfl ?_
 unfold F24_link_New at hR
 change WK _ _ _ [ac24] _ ⟨[(0, .int .i64 level0), (1, .int .i64 most1)], [], 0⟩
 unfold ac24
 refine WK.sr mixed ?_
 refine GX.step (v' := .ptr 0 0) (heap' := [(0, .box [.int .i64 0, .int .i64 0, .nils, .bool false])]) (next' := 1) rfl rfl rfl rfl rfl rfl rfl ?_
 refine GX.m rfl ?_
 refine GX.done ?_
 refine WK.seq ?_
 refine WK.sr mixed ?_
 refine GX.m rfl ?_
 refine GX.q (.bool (decide (level0 < 1))) ?_
 refine GX.m rfl ?_
 rcases bool_two (decide (level0 < 1)) with hb1 | hb1
 ·rw [hb1]; try simp only [hb1, bb] at hR
  refine GX.m rfl ?_
  iterate 2 refine GX.q (.bool (decide (2 < level0))) ?_
  refine GX.m rfl ?_
  rcases bool_two (decide (2 < level0)) with hb2 | hb2
  ·rw [hb2]; try simp only [hb2, bb] at hR
   refine GX.m rfl ?_
   iterate 2 refine GX.q (.bool (decide (most1 < 1))) ?_
   refine GX.m rfl ?_
   rcases bool_two (decide (most1 < 1)) with hb3 | hb3
   ·rw [hb3]; try simp only [hb3, bb] at hR
    refine GX.m rfl ?_
    iterate 2 refine GX.q (.bool (decide (1000 < most1))) ?_
    refine GX.done ?_
    rcases bool_two (decide (1000 < most1)) with hb4 | hb4
    ·rw [hb4]; try simp only [hb4, bb] at hR
     refine WK.condF rfl ?_
     refine WK.skip ?_
     refine WK.sr mixed ?_
     iterate 2 refine GX.m rfl ?_
     refine GX.q (.agg [.int .i64 level0, .int .i64 most1, .nils, .bool false]) ?_
     refine GX.step0 (heap' := [(0, .box [.int .i64 level0, .int .i64 most1, .nils, .bool false])]) (next' := 1) rfl rfl rfl rfl rfl ?_
     refine GX.m rfl ?_
     refine GX.done ?_
     refine WK.ret ?_
     subst hR
     exact RetQ.frw [] (.inr rfl) rfl rfl rfl (.tup (.cons (.agg (.cons .refl (.cons .refl (.cons .nil .refl)))) .refl))
    ·rw [hb4]; try simp only [hb4, bb] at hR
     refine WK.condT rfl ?_
     refine WK.sr mixed ?_
     refine GX.q (.agg [.int .i64 0, .int .i64 0, .nils, .bool false]) ?_
     refine GX.step0 (heap' := [(0, .box [.int .i64 0, .int .i64 0, .nils, .bool false])]) (next' := 1) rfl rfl rfl rfl rfl ?_
     refine GX.m rfl ?_
     refine GX.done ?_
     refine WK.ret ?_
     subst hR
     exact RetQ.frw [] (.inr rfl) rfl rfl rfl (.tup (.cons (.agg (.cons .refl (.cons .refl (.cons .nil .refl)))) .refl))
   ·rw [hb3]; try simp only [hb3, bb] at hR
    iterate 2 refine GX.skip rfl rfl ?_
    refine GX.q (.bool true) ?_
    refine GX.done ?_
    refine WK.condT rfl ?_
    refine WK.sr mixed ?_
    refine GX.q (.agg [.int .i64 0, .int .i64 0, .nils, .bool false]) ?_
    refine GX.step0 (heap' := [(0, .box [.int .i64 0, .int .i64 0, .nils, .bool false])]) (next' := 1) rfl rfl rfl rfl rfl ?_
    refine GX.m rfl ?_
    refine GX.done ?_
    refine WK.ret ?_
    subst hR
    exact RetQ.frw [] (.inr rfl) rfl rfl rfl (.tup (.cons (.agg (.cons .refl (.cons .refl (.cons .nil .refl)))) .refl))
  ·rw [hb2]; try simp only [hb2, bb] at hR
   iterate 2 refine GX.skip rfl rfl ?_
   refine GX.q (.bool true) ?_
   refine GX.m rfl ?_
   iterate 2 refine GX.skip rfl rfl ?_
   refine GX.q (.bool true) ?_
   refine GX.done ?_
   refine WK.condT rfl ?_
   refine WK.sr mixed ?_
   refine GX.q (.agg [.int .i64 0, .int .i64 0, .nils, .bool false]) ?_
   refine GX.step0 (heap' := [(0, .box [.int .i64 0, .int .i64 0, .nils, .bool false])]) (next' := 1) rfl rfl rfl rfl rfl ?_
   refine GX.m rfl ?_
   refine GX.done ?_
   refine WK.ret ?_
   subst hR
   exact RetQ.frw [] (.inr rfl) rfl rfl rfl (.tup (.cons (.agg (.cons .refl (.cons .refl (.cons .nil .refl)))) .refl))
 ·rw [hb1]; try simp only [hb1, bb] at hR
  iterate 2 refine GX.skip rfl rfl ?_
  refine GX.q (.bool true) ?_
  refine GX.m rfl ?_
  iterate 2 refine GX.skip rfl rfl ?_
  refine GX.q (.bool true) ?_
  refine GX.m rfl ?_
  iterate 2 refine GX.skip rfl rfl ?_
  refine GX.q (.bool true) ?_
  refine GX.done ?_
  refine WK.condT rfl ?_
  refine WK.sr mixed ?_
  refine GX.q (.agg [.int .i64 0, .int .i64 0, .nils, .bool false]) ?_
  refine GX.step0 (heap' := [(0, .box [.int .i64 0, .int .i64 0, .nils, .bool false])]) (next' := 1) rfl rfl rfl rfl rfl ?_
  refine GX.m rfl ?_
  refine GX.done ?_
  refine WK.ret ?_
  subst hR
  exact RetQ.frw [] (.inr rfl) rfl rfl rfl (.tup (.cons (.agg (.cons .refl (.cons .refl (.cons .nil .refl)))) .refl))

theorem f11_ok  (R : Bool) (hR : F11_crossroadslaw23_alive = R) : FnOk Try.prog 11 [] [] 0 (.bool R) [] 0 := by
 refine FnOk.wk i11 rfl rfl ?_
 unfold F11_crossroadslaw23_alive at hR
 change WK _ _ _ [ac11] _ ⟨[], [], 0⟩
 unfold ac11
 refine WK.sr mixed ?_
 refine GX.m rfl ?_
 refine GX.done ?_
 refine WK.sr mixed ?_
 generalize hc9 : F24_link_New 1 1 = c9 at hR
 have hpo0_c9 := post_New1 1 1; rw [hc9] at hpo0_c9
 have hpo1_c9 := post_New2 1 1; rw [hc9] at hpo1_c9
 obtain ⟨c9a, c9b⟩ := c9; try dsimp only at hR; try dsimp only at hpo0_c9; try dsimp only at hpo1_c9
 refine GX.callp (r := .tup [.agg [.int .i64 c9a.Level, .int .i64 c9a.Max, .ro 7 (c9a.L.map TLsp.c), .bool c9a.Over], .int .i64 c9b]) rfl rfl rfl (f24_ok 1 1 _ hc9) rfl rfl ?_
 refine GX.m rfl ?_
 refine GX.q (.agg [.int .i64 c9a.Level, .int .i64 c9a.Max, .ro 7 (c9a.L.map TLsp.c), .bool c9a.Over]) ?_
 refine GX.q (.int .i64 c9b) ?_
 refine GX.step (v' := .ptr 0 0) (heap' := [(0, .box [.int .i64 0, .int .i64 0, .nils, .bool false])]) (next' := 1) rfl rfl rfl rfl rfl rfl rfl ?_
 refine GX.step0 (heap' := [(0, .box (TBase.c c9a))]) (next' := 1) rfl rfl rfl rfl rfl ?_
 refine GX.m rfl ?_
 refine GX.done ?_
 refine WK.sr mixed ?_
 refine GX.q (.agg (TBase.c c9a)) ?_
 refine GX.q (.agg [.int .i64 1, .int .i64 0, .int .u64 5, .int .u32 1, .int .i64 0, .int .i64 0, .nils]) ?_
 generalize hc15 : F21_link_Put c9a (⟨1, 0, 5, 1, 0, 0, ([] : List TThing)⟩ : TLsp) = c15 at hR
 have hpo0_c15 := post_Put1 c9a (⟨1, 0, 5, 1, 0, 0, ([] : List TThing)⟩ : TLsp) (by omega) (by omega) (by ((try simp only [List.length_append, List.length_cons, List.length_nil, List.length_map, decide_eq_true_eq, decide_eq_false_iff_not] at *) <;> omega)); rw [hc15] at hpo0_c15
 have hpo1_c15 := post_Put2 c9a (⟨1, 0, 5, 1, 0, 0, ([] : List TThing)⟩ : TLsp) (by omega) (by omega) (by ((try simp only [List.length_append, List.length_cons, List.length_nil, List.length_map, decide_eq_true_eq, decide_eq_false_iff_not] at *) <;> omega)); rw [hc15] at hpo1_c15
 obtain ⟨c15a, c15b, c15c⟩ := c15; try dsimp only at hR; try dsimp only at hpo0_c15; try dsimp only at hpo1_c15
 refine GX.callp (r := .tup [.agg [.int .i64 c15a.Level, .int .i64 c15a.Max, .ro 7 (c15a.L.map TLsp.c), .bool c15a.Over], .int .i64 c15b, .int .i64 c15c]) rfl rfl rfl (FnOk.weak (f21_ok c9a (⟨1, 0, 5, 1, 0, 0, ([] : List TThing)⟩ : TLsp) (by omega) (by omega) (by ((try simp only [List.length_append, List.length_cons, List.length_nil, List.length_map, decide_eq_true_eq, decide_eq_false_iff_not] at *) <;> omega)) _ hc15) (.cons .refl (.cons (.agg (.cons .refl (.cons .refl (.cons .refl (.cons .refl (.cons .refl (.cons .refl (.cons .nil .refl)))))))) .refl))) rfl rfl ?_
 refine GX.m rfl ?_
 refine GX.q (.agg [.int .i64 c15a.Level, .int .i64 c15a.Max, .ro 7 (c15a.L.map TLsp.c), .bool c15a.Over]) ?_
 refine GX.q (.int .i64 c15b) ?_
 refine GX.q (.int .i64 c15c) ?_
 refine GX.step0 (heap' := [(0, .box (TBase.c c15a))]) (next' := 1) rfl rfl rfl rfl rfl ?_
 iterate 2 refine GX.m rfl ?_
 refine GX.done ?_
 refine WK.sr mixed ?_
 refine GX.q (.agg (TBase.c c15a)) ?_
 refine GX.q (.agg [.int .i64 1, .int .i64 0, .int .u64 6, .int .u32 1, .int .i64 0, .int .i64 0, .nils]) ?_
 generalize hc22 : F21_link_Put c15a (⟨1, 0, 6, 1, 0, 0, ([] : List TThing)⟩ : TLsp) = c22 at hR
 have hpo0_c22 := post_Put1 c15a (⟨1, 0, 6, 1, 0, 0, ([] : List TThing)⟩ : TLsp) (by omega) (by omega) (by ((try simp only [List.length_append, List.length_cons, List.length_nil, List.length_map, decide_eq_true_eq, decide_eq_false_iff_not] at *) <;> omega)); rw [hc22] at hpo0_c22
 have hpo1_c22 := post_Put2 c15a (⟨1, 0, 6, 1, 0, 0, ([] : List TThing)⟩ : TLsp) (by omega) (by omega) (by ((try simp only [List.length_append, List.length_cons, List.length_nil, List.length_map, decide_eq_true_eq, decide_eq_false_iff_not] at *) <;> omega)); rw [hc22] at hpo1_c22
 obtain ⟨c22a, c22b, c22c⟩ := c22; try dsimp only at hR; try dsimp only at hpo0_c22; try dsimp only at hpo1_c22
 refine GX.callp (r := .tup [.agg [.int .i64 c22a.Level, .int .i64 c22a.Max, .ro 7 (c22a.L.map TLsp.c), .bool c22a.Over], .int .i64 c22b, .int .i64 c22c]) rfl rfl rfl (FnOk.weak (f21_ok c15a (⟨1, 0, 6, 1, 0, 0, ([] : List TThing)⟩ : TLsp) (by omega) (by omega) (by ((try simp only [List.length_append, List.length_cons, List.length_nil, List.length_map, decide_eq_true_eq, decide_eq_false_iff_not] at *) <;> omega)) _ hc22) (.cons .refl (.cons (.agg (.cons .refl (.cons .refl (.cons .refl (.cons .refl (.cons .refl (.cons .refl (.cons .nil .refl)))))))) .refl))) rfl rfl ?_
 refine GX.m rfl ?_
 refine GX.q (.agg [.int .i64 c22a.Level, .int .i64 c22a.Max, .ro 7 (c22a.L.map TLsp.c), .bool c22a.Over]) ?_
 refine GX.q (.int .i64 c22b) ?_
 refine GX.q (.int .i64 c22c) ?_
 refine GX.step (v' := .ptr 1 0) (heap' := [(0, .box (TBase.c c15a)), (1, .box [.int .i64 0, .int .i64 0, .nils, .bool false])]) (next' := 2) rfl rfl rfl rfl rfl rfl rfl ?_
 refine GX.step0 (heap' := [(0, .box (TBase.c c15a)), (1, .box (TBase.c c22a))]) (next' := 2) rfl rfl rfl rfl rfl ?_
 iterate 2 refine GX.m rfl ?_
 refine GX.done ?_
 refine WK.sr mixed ?_
 refine GX.m rfl ?_
 refine GX.q (.bool (decide (c9b = 0))) ?_
 refine GX.m rfl ?_
 rcases bool_two (decide (c9b = 0)) with hb1 | hb1
 ·rw [hb1]; try simp only [hb1, bb] at hR
  iterate 2 refine GX.skip rfl rfl ?_
  refine GX.q (.bool false) ?_
  refine GX.m rfl ?_
  iterate 2 refine GX.skip rfl rfl ?_
  refine GX.q (.bool false) ?_
  refine GX.m rfl ?_
  iterate 2 refine GX.skip rfl rfl ?_
  refine GX.q (.bool false) ?_
  refine GX.m rfl ?_
  iterate 4 refine GX.skip rfl rfl ?_
  refine GX.q (.bool false) ?_
  refine GX.m rfl ?_
  refine GX.done ?_
  refine WK.ret ?_
  subst hR
  exact RetQ.fr [] (.inr rfl) rfl rfl rfl rfl
 ·rw [hb1]; try simp only [hb1, bb] at hR
  refine GX.m rfl ?_
  iterate 2 refine GX.q (.bool (decide (c15b = 3))) ?_
  refine GX.m rfl ?_
  rcases bool_two (decide (c15b = 3)) with hb2 | hb2
  ·rw [hb2]; try simp only [hb2, bb] at hR
   iterate 2 refine GX.skip rfl rfl ?_
   refine GX.q (.bool false) ?_
   refine GX.m rfl ?_
   iterate 2 refine GX.skip rfl rfl ?_
   refine GX.q (.bool false) ?_
   refine GX.m rfl ?_
   iterate 4 refine GX.skip rfl rfl ?_
   refine GX.q (.bool false) ?_
   refine GX.m rfl ?_
   refine GX.done ?_
   refine WK.ret ?_
   subst hR
   exact RetQ.fr [] (.inr rfl) rfl rfl rfl rfl
  ·rw [hb2]; try simp only [hb2, bb] at hR
   refine GX.m rfl ?_
   iterate 2 refine GX.q (.bool (decide (c15c = 0))) ?_
   refine GX.m rfl ?_
   rcases bool_two (decide (c15c = 0)) with hb3 | hb3
   ·rw [hb3]; try simp only [hb3, bb] at hR
    iterate 2 refine GX.skip rfl rfl ?_
    refine GX.q (.bool false) ?_
    refine GX.m rfl ?_
    iterate 4 refine GX.skip rfl rfl ?_
    refine GX.q (.bool false) ?_
    refine GX.m rfl ?_
    refine GX.done ?_
    refine WK.ret ?_
    subst hR
    exact RetQ.fr [] (.inr rfl) rfl rfl rfl rfl
   ·rw [hb3]; try simp only [hb3, bb] at hR
    refine GX.m rfl ?_
    iterate 2 refine GX.q (.bool (decide (c22c = 8))) ?_
    refine GX.m rfl ?_
    rcases bool_two (decide (c22c = 8)) with hb4 | hb4
    ·rw [hb4]; try simp only [hb4, bb] at hR
     iterate 4 refine GX.skip rfl rfl ?_
     refine GX.q (.bool false) ?_
     refine GX.m rfl ?_
     refine GX.done ?_
     refine WK.ret ?_
     subst hR
     exact RetQ.fr [] (.inr rfl) rfl rfl rfl rfl
    ·rw [hb4]; try simp only [hb4, bb] at hR
     refine GX.q (.agg [.int .i64 0, .int .u64 0, .int .u32 2, .int .i64 0]) ?_
     refine GX.q (.agg [.int .i64 0, .int .u64 0, .int .u32 1, .int .i64 9]) ?_
     generalize hc43 : F8_link_Compare (⟨0, 0, 2, 0⟩ : TEntry) (⟨0, 0, 1, 9⟩ : TEntry) = c43 at hR
     try dsimp only at hR
     refine GX.callp (r := .int .i64 c43) rfl rfl rfl (f8_ok (⟨0, 0, 2, 0⟩ : TEntry) (⟨0, 0, 1, 9⟩ : TEntry) _ hc43) rfl rfl ?_
     iterate 2 refine GX.q (.bool (decide (c43 = 1))) ?_
     refine GX.m rfl ?_
     refine GX.done ?_
     refine WK.ret ?_
     subst hR
     exact RetQ.fr [] (.inr rfl) rfl rfl rfl rfl

theorem f12_ok (x0 : TLsp) (R : Bool) (hR : F12_crossroadslaw23_little x0 = R) : FnOk Try.prog 12 [.agg (TLsp.c x0)] [] 0 (.bool R) [] 0 := by
 refine FnOk.wk i12 rfl rfl ?_
 unfold F12_crossroadslaw23_little at hR
 change WK _ _ _ [ac12] _ ⟨[(0, .agg (TLsp.c x0))], [], 0⟩
 unfold ac12
 refine WK.sr mixed ?_
 refine GX.step (v' := .ptr 0 0) (heap' := [(0, .box (TLsp.c x0))]) (next' := 1) rfl rfl rfl rfl rfl rfl rfl ?_
 refine GX.m rfl ?_
 refine GX.done ?_
 refine WK.seq ?_
 refine WK.sr mixed ?_
 refine GX.m rfl ?_
 refine GX.done ?_
 refine WK.lenb (id := 0) (j := 6) rfl rfl (by simp) (fun hlen_1 => ?_)
 rw [List.length_map] at hlen_1
 generalize hZ_1 : F12_crossroadslaw23_little_l1 0 x0.Things = Z_1 at hR
 refine WK.forK (fun k s => ∃ (i3 : Nat), i3 ≤ x0.Things.length ∧ k = x0.Things.length - i3 ∧ F12_crossroadslaw23_little_l1 i3 (x0.Things.drop i3) = Z_1 ∧ s = ⟨[(1, .ptr 0 0), (3, .int .i64 (i3 : Int))], [(0, .box (TLsp.c x0))], 1⟩) x0.Things.length ⟨⟨[(1, .ptr 0 0), (3, .int .i64 (0 : Int))], [(0, .box (TLsp.c x0))], 1⟩, Conv.keep [0] [] [1, 3] rfl rfl (viewE_cons rfl rfl (viewE_cons rfl rfl viewE_nil)) rfl rfl, 0, (by omega), rfl, hZ_1, rfl⟩ ?_
 rintro _ _ ⟨i3, hi_1, rfl, hL_1, rfl⟩ again_1 out_1 Q_1 hagain_1 hout_1 hQ_1
 refine WK.seq ?_
 refine WK.sr mixed ?_
 refine GX.m rfl ?_
 refine GX.q (.ptr 0 6) ?_
 refine GX.q (.ro 2 (x0.Things.map TThing.c)) ?_
 refine GX.pure (v' := .int .i64 (x0.Things.length : Int)) rfl rfl rfl rfl (len_map _ _) ?_
 refine GX.q (.bool (decide ((i3 : Int) < (x0.Things.length : Int)))) ?_
 refine GX.done ?_
 rcases bool_two (decide ((i3 : Int) < (x0.Things.length : Int))) with hb2 | hb2
 ·rw [hb2]
  rw [drop_end hb2, F12_crossroadslaw23_little_l1] at hL_1
  refine WK.condF rfl ?_
  refine WK.exit ?_
  refine QF.exit (hout_1 _ ?_)
  subst hL_1
  try dsimp only [cond_true, cond_false] at hR
  refine WK.sr mixed ?_
  refine GX.m rfl ?_
  refine GX.done ?_
  refine WK.ret ?_
  subst hR
  exact RetQ.fr [] (.inr rfl) rfl rfl rfl rfl
 ·rw [hb2]
  obtain ⟨x3, hx1, hd1, hlt1⟩ := drop_more hb2
  rw [hd1, F12_crossroadslaw23_little_l1] at hL_1
  refine WK.condT rfl ?_
  refine WK.skip ?_
  refine WK.seq ?_
  refine WK.blockK (fun _ hK3 => ?_)
  refine WK.sr mixed ?_
  refine GX.m rfl ?_
  refine GX.q (.bool (decide ((i3 : Int) = 8))) ?_
  refine GX.m rfl ?_
  rcases bool_two (decide ((i3 : Int) = 8)) with hb4 | hb4
  ·rw [hb4]; try simp only [hb4, bb] at hL_1
   refine GX.q (.ptr 0 6) ?_
   refine GX.q (.ro 2 (x0.Things.map TThing.c)) ?_
   refine GX.m rfl ?_
   refine GX.idxT (c := TThing.c) (x := x3) rfl rfl rfl (Int.natCast_nonneg _) hx1 ?_
   refine GX.q (.rptr [.ro 1 (x3.B.map c_u8)]) ?_
   refine GX.q (.ro 1 (x3.B.map c_u8)) ?_
   refine GX.pure (v' := .int .i64 (x3.B.length : Int)) rfl rfl rfl rfl (len_map _ _) ?_
   iterate 2 refine GX.q (.bool (decide (300 < (x3.B.length : Int)))) ?_
   refine GX.done ?_
   rcases bool_two (decide (300 < (x3.B.length : Int))) with hb5 | hb5
   ·rw [hb5]; try simp only [hb5, bb] at hL_1
    refine WK.condF rfl ?_
    refine WK.skip ?_
    refine WK.nil (QF.normal (hK3 _ ?_))
    refine WK.regx mixed ?_
    refine GX.m rfl ?_
    refine GX.pure (v' := .int .i64 ((i3 + 1 : Nat) : Int)) rfl rfl rfl rfl (congrArg (PVal.int .i64) (wrap_up hlt1 hlen_1)) ?_
    refine GX.m rfl ?_
    refine GX.done ?_
    refine WK.nil (QF.normal ?_)
    exact hagain_1 _ (x0.Things.length - (i3 + 1)) ⟨[(1, .ptr 0 0), (3, .int .i64 ((i3 + 1) : Int))], [(0, .box (TLsp.c x0))], 1⟩ (by omega) (Conv.keep [0] [] [1, 3] rfl rfl (viewE_cons rfl rfl (viewE_cons rfl rfl viewE_nil)) rfl rfl) ⟨i3 + 1, (by omega), rfl, hL_1, rfl⟩
   ·rw [hb5]; try simp only [hb5, bb] at hL_1
    refine WK.condT rfl ?_
    refine WK.sr mixed ?_
    refine GX.m rfl ?_
    refine GX.done ?_
    refine WK.ret ?_
    refine QF.ret ?_
    refine QF.ret (hQ_1 _ _ ?_)
    subst hL_1
    subst hR
    exact RetQ.fr [] (.inr rfl) rfl rfl rfl rfl
  ·rw [hb4]; try simp only [hb4, bb] at hL_1
   iterate 8 refine GX.skip rfl rfl ?_
   refine GX.q (.bool true) ?_
   refine GX.done ?_
   refine WK.condT rfl ?_
   refine WK.sr mixed ?_
   refine GX.m rfl ?_
   refine GX.done ?_
   refine WK.ret ?_
   refine QF.ret ?_
   refine QF.ret (hQ_1 _ _ ?_)
   subst hL_1
   subst hR
   exact RetQ.fr [] (.inr rfl) rfl rfl rfl rfl

theorem f30_ok (x0 : TLsp) (hp0 : x0.Things.length ≤ 100) (R : TLsp) (hR : F30_crossroadslaw23_lsp x0 = R) : FnOk Try.prog 30 [.agg (TLsp.c x0)] [] 0 (.agg (TLsp.c R)) [] 0 := by
 refine FnOk.wk i30 rfl rfl ?_
 unfold F30_crossroadslaw23_lsp at hR
 change WK _ _ _ [ac30] _ ⟨[(0, .agg (TLsp.c x0))], [], 0⟩
 unfold ac30
 refine WK.sr mixed ?_
 refine GX.step (v' := .ptr 0 0) (heap' := [(0, .box (TLsp.c x0))]) (next' := 1) rfl rfl rfl rfl rfl rfl rfl ?_
 refine GX.step (v' := .ptr 1 0) (heap' := [(0, .box (TLsp.c x0)), (1, .box [.int .i64 0, .int .i64 0, .int .u64 0, .int .u32 0, .int .i64 0, .int .i64 0, .nils])]) (next' := 2) rfl rfl rfl rfl rfl rfl rfl ?_
 refine GX.done ?_
 refine WK.sr mixed ?_
 refine GX.step (v' := .own 2 2 0 (([] : List TThing)).length) (heap' := [(0, .box (TLsp.c x0)), (1, .box [.int .i64 0, .int .i64 0, .int .u64 0, .int .u32 0, .int .i64 0, .int .i64 0, .nils]), (2, .row 2 117 (([] : List TThing).map TThing.c))]) (next' := 3) rfl rfl rfl rfl rfl rfl rfl ?_
 refine GX.m rfl ?_
 refine GX.done ?_
 refine WK.seq ?_
 refine WK.sr mixed ?_
 refine GX.m rfl ?_
 refine GX.done ?_
 refine WK.lenb (id := 0) (j := 6) rfl rfl (by simp) (fun hlen_4 => ?_)
 rw [List.length_map] at hlen_4
 generalize hZ_4 : F30_crossroadslaw23_lsp_l1 ([] : List TThing) x0.Things = Z_4 at hR
 refine WK.forK (fun k s => ∃ (i4 : Nat) (t3 : List TThing), i4 ≤ x0.Things.length ∧ k = x0.Things.length - i4 ∧ t3.length ≤ i4 + 0 ∧ F30_crossroadslaw23_lsp_l1 t3 (x0.Things.drop i4) = Z_4 ∧ s = ⟨[(1, .ptr 0 0), (2, .ptr 1 0), (3, .own 2 2 0 t3.length), (4, .int .i64 (i4 : Int))], [(0, .box (TLsp.c x0)), (1, .box [.int .i64 0, .int .i64 0, .int .u64 0, .int .u32 0, .int .i64 0, .int .i64 0, .nils]), (2, .row 2 117 (t3.map TThing.c))], 3⟩) x0.Things.length ⟨⟨[(1, .ptr 0 0), (2, .ptr 1 0), (3, .own 2 2 0 ([] : List TThing).length), (4, .int .i64 (0 : Int))], [(0, .box (TLsp.c x0)), (1, .box [.int .i64 0, .int .i64 0, .int .u64 0, .int .u32 0, .int .i64 0, .int .i64 0, .nils]), (2, .row 2 117 (([] : List TThing).map TThing.c))], 3⟩, Conv.keep [0, 1, 2] [] [1, 2, 3, 4] rfl rfl (viewE_cons rfl rfl (viewE_cons rfl rfl (viewE_cons rfl rfl (viewE_cons rfl rfl viewE_nil)))) rfl rfl, 0, ([] : List TThing), (by omega), rfl, (by ((try simp only [List.length_append, List.length_cons, List.length_nil, decide_eq_true_eq, decide_eq_false_iff_not] at *) <;> first | omega | (rw [wrap64_of (by omega) (by omega)]; omega))), hZ_4, rfl⟩ ?_
 rintro _ _ ⟨i4, t3, hi_4, rfl, hinv4_t3, hL_4, rfl⟩ again_4 out_4 Q_4 hagain_4 hout_4 hQ_4
 refine WK.seq ?_
 refine WK.sr mixed ?_
 refine GX.m rfl ?_
 refine GX.q (.ptr 0 6) ?_
 refine GX.q (.ro 2 (x0.Things.map TThing.c)) ?_
 refine GX.pure (v' := .int .i64 (x0.Things.length : Int)) rfl rfl rfl rfl (len_map _ _) ?_
 refine GX.q (.bool (decide ((i4 : Int) < (x0.Things.length : Int)))) ?_
 refine GX.done ?_
 rcases bool_two (decide ((i4 : Int) < (x0.Things.length : Int))) with hb5 | hb5
 ·rw [hb5]
  rw [drop_end hb5, F30_crossroadslaw23_lsp_l1] at hL_4
  refine WK.condF rfl ?_
  refine WK.exit ?_
  refine QF.exit (hout_4 _ ?_)
  subst hL_4
  try dsimp only [cond_true, cond_false] at hR
  refine WK.sr mixed ?_
  refine GX.q (.ptr 0 0) ?_
  refine GX.q (.int .i64 x0.Level) ?_
  refine GX.q (.ptr 0 1) ?_
  refine GX.q (.int .i64 x0.Life) ?_
  refine GX.q (.ptr 0 2) ?_
  refine GX.q (.int .u64 x0.ID) ?_
  refine GX.q (.ptr 0 3) ?_
  refine GX.q (.int .u32 x0.Seq) ?_
  refine GX.q (.ptr 0 4) ?_
  refine GX.q (.int .i64 x0.Sum) ?_
  refine GX.q (.ptr 0 5) ?_
  refine GX.q (.int .i64 x0.Bits) ?_
  refine GX.m rfl ?_
  refine GX.q (.agg [.int .i64 x0.Level, .int .i64 x0.Life, .int .u64 x0.ID, .int .u32 x0.Seq, .int .i64 x0.Sum, .int .i64 x0.Bits, .own 2 2 0 t3.length]) ?_
  refine GX.step0 (heap' := [(0, .box (TLsp.c x0)), (1, .box [.int .i64 x0.Level, .int .i64 x0.Life, .int .u64 x0.ID, .int .u32 x0.Seq, .int .i64 x0.Sum, .int .i64 x0.Bits, .own 2 2 0 t3.length]), (2, .row 2 117 (t3.map TThing.c))]) (next' := 3) rfl rfl rfl rfl rfl ?_
  refine GX.done ?_
  refine WK.ret ?_
  subst hR
  exact RetQ.fr [2] (.inr rfl) rfl rfl (viewGo_cons (viewP_agg (viewGo_cons rfl (viewGo_cons rfl (viewGo_cons rfl (viewGo_cons rfl (viewGo_cons rfl (viewGo_cons rfl (viewGo_cons (view_rowT rfl rfl) viewGo_nil)))))))) viewGo_nil) rfl
 ·rw [hb5]
  obtain ⟨x4, hx4, hd4, hlt4⟩ := drop_more hb5
  rw [hd4, F30_crossroadslaw23_lsp_l1] at hL_4
  refine WK.condT rfl ?_
  refine WK.skip ?_
  refine WK.seq ?_
  refine WK.blockK (fun _ hK6 => ?_)
  refine WK.drawn mixed ?_
  refine RD.m rfl ?_
  refine RD.q (.ptr 0 6) ?_
  refine RD.q (.ro 2 (x0.Things.map TThing.c)) ?_
  refine RD.m rfl ?_
  refine RD.idxT (c := TThing.c) (x := x4) rfl rfl rfl (Int.natCast_nonneg _) hx4 ?_
  refine RD.q (.rptr (TThing.c x4)) ?_
  refine RD.q (.int .i64 x4.Kind) ?_
  refine RD.q (.ptr 0 6) ?_
  refine RD.q (.ro 2 (x0.Things.map TThing.c)) ?_
  refine RD.m rfl ?_
  refine RD.idxT (c := TThing.c) (x := x4) rfl rfl rfl (Int.natCast_nonneg _) hx4 ?_
  refine RD.q (.rptr [.ro 1 (x4.B.map c_u8)]) ?_
  refine RD.q (.ro 1 (x4.B.map c_u8)) ?_
  refine RD.q (.agg (TThing.c x4)) ?_
  refine RD.step (v' := .own 3 2 0 (([x4] : List TThing)).length) (heap' := [(0, .box (TLsp.c x0)), (1, .box [.int .i64 0, .int .i64 0, .int .u64 0, .int .u32 0, .int .i64 0, .int .i64 0, .nils]), (2, .row 2 117 (t3.map TThing.c)), (3, .row 2 117 (([x4] : List TThing).map TThing.c))]) (next' := 4) rfl rfl rfl rfl rfl rfl rfl ?_
  refine RD.appT (c := TThing.c) (L := t3) (X := ([x4] : List TThing)) (heap' := [(0, .box (TLsp.c x0)), (1, .box [.int .i64 0, .int .i64 0, .int .u64 0, .int .u32 0, .int .i64 0, .int .i64 0, .nils]), (3, .row 2 117 (([x4] : List TThing).map TThing.c)), (4, .row 2 117 ((t3 ++ ([x4] : List TThing)).map TThing.c))]) (next' := 5) rfl rfl rfl rfl (elems_own rfl) (by ((try simp only [List.length_append, List.length_cons, List.length_nil, List.length_map, decide_eq_true_eq, decide_eq_false_iff_not] at *) <;> omega)) (by ((try simp only [List.length_append, List.length_cons, List.length_nil, List.length_map, decide_eq_true_eq, decide_eq_false_iff_not] at *) <;> omega)) rfl rfl rfl rfl ?_
  refine RD.m rfl ?_
  refine RD.done rfl ?_
  refine WK.nil (QF.normal (hK6 _ ?_))
  refine WK.regx mixed ?_
  refine GX.m rfl ?_
  refine GX.pure (v' := .int .i64 ((i4 + 1 : Nat) : Int)) rfl rfl rfl rfl (congrArg (PVal.int .i64) (wrap_up hlt4 hlen_4)) ?_
  refine GX.m rfl ?_
  refine GX.done ?_
  refine WK.nil (QF.normal ?_)
  exact hagain_4 _ (x0.Things.length - (i4 + 1)) ⟨[(1, .ptr 0 0), (2, .ptr 1 0), (3, .own 2 2 0 (t3 ++ ([x4] : List TThing)).length), (4, .int .i64 ((i4 + 1) : Int))], [(0, .box (TLsp.c x0)), (1, .box [.int .i64 0, .int .i64 0, .int .u64 0, .int .u32 0, .int .i64 0, .int .i64 0, .nils]), (2, .row 2 117 ((t3 ++ ([x4] : List TThing)).map TThing.c))], 3⟩ (by omega) (Conv.keep [0, 1, 4] [] [1, 2, 3, 4] rfl rfl (viewE_cons rfl rfl (viewE_cons rfl rfl (viewE_cons rfl rfl (viewE_cons rfl rfl viewE_nil)))) rfl rfl) ⟨i4 + 1, (t3 ++ ([x4] : List TThing)), (by omega), rfl, (by ((try simp only [List.length_append, List.length_cons, List.length_nil, decide_eq_true_eq, decide_eq_false_iff_not] at *) <;> first | omega | (rw [wrap64_of (by omega) (by omega)]; omega))), hL_4, rfl⟩

theorem f23_ok (b0 : TBase) (hp0 : SmB b0) (R : TBase) (hR : F23_crossroadslaw23_plain b0 = R) : FnOk Try.prog 23 [.agg (TBase.c b0)] [] 0 (.agg (TBase.c R)) [] 0 := by
 refine FnOk.wk i23 rfl rfl ?_
 unfold F23_crossroadslaw23_plain at hR
 change WK _ _ _ [ac23] _ ⟨[(0, .agg (TBase.c b0))], [], 0⟩
 unfold ac23
 refine WK.sr mixed ?_
 refine GX.step (v' := .ptr 0 0) (heap' := [(0, .box (TBase.c b0))]) (next' := 1) rfl rfl rfl rfl rfl rfl rfl ?_
 refine GX.step (v' := .ptr 1 0) (heap' := [(0, .box (TBase.c b0)), (1, .box [.int .i64 0, .int .i64 0, .nils, .bool false])]) (next' := 2) rfl rfl rfl rfl rfl rfl rfl ?_
 refine GX.done ?_
 refine WK.sr mixed ?_
 refine GX.q (.ptr 0 0) ?_
 refine GX.q (.int .i64 b0.Level) ?_
 refine GX.q (.ptr 0 1) ?_
 refine GX.q (.int .i64 b0.Max) ?_
 refine GX.q (.ptr 0 3) ?_
 refine GX.q (.bool b0.Over) ?_
 refine GX.q (.agg [.int .i64 b0.Level, .int .i64 b0.Max, .nils, .bool b0.Over]) ?_
 refine GX.step (v' := .ptr 2 0) (heap' := [(0, .box (TBase.c b0)), (1, .box [.int .i64 0, .int .i64 0, .nils, .bool false]), (2, .box [.int .i64 0, .int .i64 0, .nils, .bool false])]) (next' := 3) rfl rfl rfl rfl rfl rfl rfl ?_
 refine GX.step0 (heap' := [(0, .box (TBase.c b0)), (1, .box [.int .i64 0, .int .i64 0, .nils, .bool false]), (2, .box [.int .i64 b0.Level, .int .i64 b0.Max, .nils, .bool b0.Over])]) (next' := 3) rfl rfl rfl rfl rfl ?_
 refine GX.done ?_
 refine WK.seq ?_
 refine WK.sr mixed ?_
 refine GX.m rfl ?_
 refine GX.done ?_
 refine WK.adoptB (id := 2) (j := 2) (sz := 7) (ty := 78) (heap' := [(0, .box (TBase.c b0)), (1, .box [.int .i64 0, .int .i64 0, .nils, .bool false]), (2, .box [.int .i64 b0.Level, .int .i64 b0.Max, .own 3 7 0 (([] : List TLsp)).length, .bool b0.Over]), (3, .row 7 78 (([] : List TLsp).map TLsp.c))]) rfl rfl (by decide) (by simp) rfl ?_
 refine WK.lenb (id := 0) (j := 2) rfl rfl (by simp) (fun hlen_7 => ?_)
 rw [List.length_map] at hlen_7
 generalize hZ_7 : F23_crossroadslaw23_plain_l1 ([] : List TLsp) b0.L = Z_7 at hR
 refine WK.forK (fun k s => ∃ (i4 : Nat) (row3 : List TLsp), i4 ≤ b0.L.length ∧ k = b0.L.length - i4 ∧ row3.length ≤ i4 + 0 ∧ F23_crossroadslaw23_plain_l1 row3 (b0.L.drop i4) = Z_7 ∧ s = ⟨[(1, .ptr 0 0), (2, .ptr 1 0), (3, .ptr 2 0), (4, .int .i64 (i4 : Int))], [(0, .box (TBase.c b0)), (1, .box [.int .i64 0, .int .i64 0, .nils, .bool false]), (2, .box [.int .i64 b0.Level, .int .i64 b0.Max, .own 3 7 0 row3.length, .bool b0.Over]), (3, .row 7 78 (row3.map TLsp.c))], 4⟩) b0.L.length ⟨⟨[(1, .ptr 0 0), (2, .ptr 1 0), (3, .ptr 2 0), (4, .int .i64 (0 : Int))], [(0, .box (TBase.c b0)), (1, .box [.int .i64 0, .int .i64 0, .nils, .bool false]), (2, .box [.int .i64 b0.Level, .int .i64 b0.Max, .own 3 7 0 ([] : List TLsp).length, .bool b0.Over]), (3, .row 7 78 (([] : List TLsp).map TLsp.c))], 4⟩, Conv.keep [0, 1, 2, 3] [] [1, 2, 3, 4] rfl rfl (viewE_cons rfl rfl (viewE_cons rfl rfl (viewE_cons rfl rfl (viewE_cons rfl rfl viewE_nil)))) rfl rfl, 0, ([] : List TLsp), (by omega), rfl, (by ((try simp only [List.length_append, List.length_cons, List.length_nil, decide_eq_true_eq, decide_eq_false_iff_not] at *) <;> first | omega | (rw [wrap64_of (by omega) (by omega)]; omega))), hZ_7, rfl⟩ ?_
 rintro _ _ ⟨i4, row3, hi_7, rfl, hinv7_row3, hL_7, rfl⟩ again_7 out_7 Q_7 hagain_7 hout_7 hQ_7
 refine WK.seq ?_
 refine WK.sr mixed ?_
 refine GX.m rfl ?_
 refine GX.q (.ptr 0 2) ?_
 refine GX.q (.ro 7 (b0.L.map TLsp.c)) ?_
 refine GX.pure (v' := .int .i64 (b0.L.length : Int)) rfl rfl rfl rfl (len_map _ _) ?_
 refine GX.q (.bool (decide ((i4 : Int) < (b0.L.length : Int)))) ?_
 refine GX.done ?_
 rcases bool_two (decide ((i4 : Int) < (b0.L.length : Int))) with hb8 | hb8
 ·rw [hb8]
  rw [drop_end hb8, F23_crossroadslaw23_plain_l1] at hL_7
  refine WK.condF rfl ?_
  refine WK.exit ?_
  refine QF.exit (hout_7 _ ?_)
  subst hL_7
  try dsimp only [cond_true, cond_false] at hR
  refine WK.sr mixed ?_
  refine GX.q (.agg [.int .i64 b0.Level, .int .i64 b0.Max, .own 3 7 0 row3.length, .bool b0.Over]) ?_
  refine GX.step0 (heap' := [(0, .box (TBase.c b0)), (1, .box [.int .i64 b0.Level, .int .i64 b0.Max, .own 3 7 0 row3.length, .bool b0.Over]), (2, .box [.int .i64 b0.Level, .int .i64 b0.Max, .own 3 7 0 row3.length, .bool b0.Over]), (3, .row 7 78 (row3.map TLsp.c))]) (next' := 4) rfl rfl rfl rfl rfl ?_
  refine GX.done ?_
  refine WK.ret ?_
  subst hR
  exact RetQ.fr [3] (.inr rfl) rfl rfl (viewGo_cons (viewP_agg (viewGo_cons rfl (viewGo_cons rfl (viewGo_cons (view_rowT rfl rfl) (viewGo_cons rfl viewGo_nil))))) viewGo_nil) rfl
 ·rw [hb8]
  obtain ⟨x4, hx7, hd7, hlt7⟩ := drop_more hb8
  rw [hd7, F23_crossroadslaw23_plain_l1] at hL_7
  refine WK.condT rfl ?_
  refine WK.skip ?_
  refine WK.seq ?_
  refine WK.blockK (fun _ hK9 => ?_)
  refine WK.drawn mixed ?_
  refine RD.q (.ptr 2 2) ?_
  refine RD.q (.own 3 7 0 row3.length) ?_
  refine RD.q (.ptr 0 2) ?_
  refine RD.q (.ro 7 (b0.L.map TLsp.c)) ?_
  refine RD.m rfl ?_
  refine RD.idxT (c := TLsp.c) (x := x4) rfl rfl rfl (Int.natCast_nonneg _) hx7 ?_
  refine RD.q (.agg (TLsp.c x4)) ?_
  generalize hc26 : F30_crossroadslaw23_lsp x4 = c26 at hL_7
  have hpo0_c26 := post_lsp x4 (by exact SmB.at2 (by assumption) (by assumption)); rw [hc26] at hpo0_c26
  try dsimp only at hL_7
  refine RD.callp (r := .agg [.int .i64 c26.Level, .int .i64 c26.Life, .int .u64 c26.ID, .int .u32 c26.Seq, .int .i64 c26.Sum, .int .i64 c26.Bits, .ro 2 (c26.Things.map TThing.c)]) rfl rfl rfl (f30_ok x4 (by exact SmB.at2 (by assumption) (by assumption)) _ hc26) rfl rfl ?_
  refine RD.step (v' := .own 4 7 0 (([c26] : List TLsp)).length) (heap' := [(0, .box (TBase.c b0)), (1, .box [.int .i64 0, .int .i64 0, .nils, .bool false]), (2, .box [.int .i64 b0.Level, .int .i64 b0.Max, .own 3 7 0 row3.length, .bool b0.Over]), (3, .row 7 78 (row3.map TLsp.c)), (4, .row 7 78 (([c26] : List TLsp).map TLsp.c))]) (next' := 5) rfl rfl rfl rfl rfl rfl rfl ?_
  refine RD.appT (c := TLsp.c) (L := row3) (X := ([c26] : List TLsp)) (heap' := [(0, .box (TBase.c b0)), (1, .box [.int .i64 0, .int .i64 0, .nils, .bool false]), (2, .box [.int .i64 b0.Level, .int .i64 b0.Max, .own 3 7 0 row3.length, .bool b0.Over]), (4, .row 7 78 (([c26] : List TLsp).map TLsp.c)), (5, .row 7 78 ((row3 ++ ([c26] : List TLsp)).map TLsp.c))]) (next' := 6) rfl rfl rfl rfl (elems_own rfl) (by (have h1 := SmB.nL (by assumption); (try simp only [List.length_append, List.length_cons, List.length_nil, decide_eq_true_eq, decide_eq_false_iff_not] at *); omega)) (by ((try simp only [List.length_append, List.length_cons, List.length_nil, List.length_map, decide_eq_true_eq, decide_eq_false_iff_not] at *) <;> omega)) rfl rfl rfl rfl ?_
  refine RD.q (.ptr 2 2) ?_
  refine RD.step0 (heap' := [(0, .box (TBase.c b0)), (1, .box [.int .i64 0, .int .i64 0, .nils, .bool false]), (2, .box [.int .i64 b0.Level, .int .i64 b0.Max, .own 5 7 0 (row3 ++ ([c26] : List TLsp)).length, .bool b0.Over]), (4, .row 7 78 (([c26] : List TLsp).map TLsp.c)), (5, .row 7 78 ((row3 ++ ([c26] : List TLsp)).map TLsp.c))]) (next' := 6) rfl rfl rfl rfl rfl ?_
  refine RD.done rfl ?_
  refine WK.nil (QF.normal (hK9 _ ?_))
  refine WK.regx mixed ?_
  refine GX.m rfl ?_
  refine GX.pure (v' := .int .i64 ((i4 + 1 : Nat) : Int)) rfl rfl rfl rfl (congrArg (PVal.int .i64) (wrap_up hlt7 hlen_7)) ?_
  refine GX.m rfl ?_
  refine GX.done ?_
  refine WK.nil (QF.normal ?_)
  exact hagain_7 _ (b0.L.length - (i4 + 1)) ⟨[(1, .ptr 0 0), (2, .ptr 1 0), (3, .ptr 2 0), (4, .int .i64 ((i4 + 1) : Int))], [(0, .box (TBase.c b0)), (1, .box [.int .i64 0, .int .i64 0, .nils, .bool false]), (2, .box [.int .i64 b0.Level, .int .i64 b0.Max, .own 3 7 0 (row3 ++ ([c26] : List TLsp)).length, .bool b0.Over]), (3, .row 7 78 ((row3 ++ ([c26] : List TLsp)).map TLsp.c))], 4⟩ (by omega) (Conv.keep [0, 1, 2, 5] [] [1, 2, 3, 4] rfl rfl (viewE_cons rfl rfl (viewE_cons rfl rfl (viewE_cons rfl rfl (viewE_cons rfl rfl viewE_nil)))) rfl rfl) ⟨i4 + 1, (row3 ++ ([c26] : List TLsp)), (by omega), rfl, (by ((try simp only [List.length_append, List.length_cons, List.length_nil, decide_eq_true_eq, decide_eq_false_iff_not] at *) <;> first | omega | (rw [wrap64_of (by omega) (by omega)]; omega))), hL_7, rfl⟩

theorem f25_ok (level0 : Int) (most1 : Int) (R : TBase × Int) (hR : F25_crossroadsref23_New level0 most1 = R) : FnOk Try.prog 25 [.int .i64 level0, .int .i64 most1] [] 0 (.tup [.agg (TBase.c R.1), .int .i64 R.2]) [] 0 := by
 refine FnOk.wk i25 rfl rfl ?_
 unfold F25_crossroadsref23_New at hR
 change WK _ _ _ [ac25] _ ⟨[(0, .int .i64 level0), (1, .int .i64 most1)], [], 0⟩
 unfold ac25
 refine WK.sr mixed ?_
 refine GX.step (v' := .ptr 0 0) (heap' := [(0, .box [.int .i64 0, .int .i64 0, .nils, .bool false])]) (next' := 1) rfl rfl rfl rfl rfl rfl rfl ?_
 refine GX.m rfl ?_
 refine GX.done ?_
 refine WK.seq ?_
 refine WK.sr mixed ?_
 refine GX.m rfl ?_
 refine GX.q (.bool (decide (level0 < 1))) ?_
 refine GX.m rfl ?_
 rcases bool_two (decide (level0 < 1)) with hb1 | hb1
 ·rw [hb1]; try simp only [hb1, bb] at hR
  refine GX.m rfl ?_
  iterate 2 refine GX.q (.bool (decide (2 < level0))) ?_
  refine GX.m rfl ?_
  rcases bool_two (decide (2 < level0)) with hb2 | hb2
  ·rw [hb2]; try simp only [hb2, bb] at hR
   refine GX.m rfl ?_
   iterate 2 refine GX.q (.bool (decide (most1 < 1))) ?_
   refine GX.m rfl ?_
   rcases bool_two (decide (most1 < 1)) with hb3 | hb3
   ·rw [hb3]; try simp only [hb3, bb] at hR
    refine GX.m rfl ?_
    iterate 2 refine GX.q (.bool (decide (1000 < most1))) ?_
    refine GX.done ?_
    rcases bool_two (decide (1000 < most1)) with hb4 | hb4
    ·rw [hb4]; try simp only [hb4, bb] at hR
     refine WK.condF rfl ?_
     refine WK.skip ?_
     refine WK.sr mixed ?_
     iterate 2 refine GX.m rfl ?_
     refine GX.q (.agg [.int .i64 level0, .int .i64 most1, .nils, .bool false]) ?_
     refine GX.step0 (heap' := [(0, .box [.int .i64 level0, .int .i64 most1, .nils, .bool false])]) (next' := 1) rfl rfl rfl rfl rfl ?_
     refine GX.m rfl ?_
     refine GX.done ?_
     refine WK.ret ?_
     subst hR
     exact RetQ.frw [] (.inr rfl) rfl rfl rfl (.tup (.cons (.agg (.cons .refl (.cons .refl (.cons .nil .refl)))) .refl))
    ·rw [hb4]; try simp only [hb4, bb] at hR
     refine WK.condT rfl ?_
     refine WK.sr mixed ?_
     refine GX.q (.agg [.int .i64 0, .int .i64 0, .nils, .bool false]) ?_
     refine GX.step0 (heap' := [(0, .box [.int .i64 0, .int .i64 0, .nils, .bool false])]) (next' := 1) rfl rfl rfl rfl rfl ?_
     refine GX.m rfl ?_
     refine GX.done ?_
     refine WK.ret ?_
     subst hR
     exact RetQ.frw [] (.inr rfl) rfl rfl rfl (.tup (.cons (.agg (.cons .refl (.cons .refl (.cons .nil .refl)))) .refl))
   ·rw [hb3]; try simp only [hb3, bb] at hR
    iterate 2 refine GX.skip rfl rfl ?_
    refine GX.q (.bool true) ?_
    refine GX.done ?_
    refine WK.condT rfl ?_
    refine WK.sr mixed ?_
    refine GX.q (.agg [.int .i64 0, .int .i64 0, .nils, .bool false]) ?_
    refine GX.step0 (heap' := [(0, .box [.int .i64 0, .int .i64 0, .nils, .bool false])]) (next' := 1) rfl rfl rfl rfl rfl ?_
    refine GX.m rfl ?_
    refine GX.done ?_
    refine WK.ret ?_
    subst hR
    exact RetQ.frw [] (.inr rfl) rfl rfl rfl (.tup (.cons (.agg (.cons .refl (.cons .refl (.cons .nil .refl)))) .refl))
  ·rw [hb2]; try simp only [hb2, bb] at hR
   iterate 2 refine GX.skip rfl rfl ?_
   refine GX.q (.bool true) ?_
   refine GX.m rfl ?_
   iterate 2 refine GX.skip rfl rfl ?_
   refine GX.q (.bool true) ?_
   refine GX.done ?_
   refine WK.condT rfl ?_
   refine WK.sr mixed ?_
   refine GX.q (.agg [.int .i64 0, .int .i64 0, .nils, .bool false]) ?_
   refine GX.step0 (heap' := [(0, .box [.int .i64 0, .int .i64 0, .nils, .bool false])]) (next' := 1) rfl rfl rfl rfl rfl ?_
   refine GX.m rfl ?_
   refine GX.done ?_
   refine WK.ret ?_
   subst hR
   exact RetQ.frw [] (.inr rfl) rfl rfl rfl (.tup (.cons (.agg (.cons .refl (.cons .refl (.cons .nil .refl)))) .refl))
 ·rw [hb1]; try simp only [hb1, bb] at hR
  iterate 2 refine GX.skip rfl rfl ?_
  refine GX.q (.bool true) ?_
  refine GX.m rfl ?_
  iterate 2 refine GX.skip rfl rfl ?_
  refine GX.q (.bool true) ?_
  refine GX.m rfl ?_
  iterate 2 refine GX.skip rfl rfl ?_
  refine GX.q (.bool true) ?_
  refine GX.done ?_
  refine WK.condT rfl ?_
  refine WK.sr mixed ?_
  refine GX.q (.agg [.int .i64 0, .int .i64 0, .nils, .bool false]) ?_
  refine GX.step0 (heap' := [(0, .box [.int .i64 0, .int .i64 0, .nils, .bool false])]) (next' := 1) rfl rfl rfl rfl rfl ?_
  refine GX.m rfl ?_
  refine GX.done ?_
  refine WK.ret ?_
  subst hR
  exact RetQ.frw [] (.inr rfl) rfl rfl rfl (.tup (.cons (.agg (.cons .refl (.cons .refl (.cons .nil .refl)))) .refl))

theorem f77_ok (l0 : List TThing) (hp0 : l0.length ≤ 100) (R : (List Int) × Int) (hR : F77_crossroadsref21_Put l0 = R) : FnOk Try.prog 77 [.ro 2 (l0.map TThing.c)] [] 0 (.tup [.ro 1 (R.1.map c_u8), .int .i64 R.2]) [] 0 := by
 refine FnOk.wk i77 rfl rfl ?_
 unfold F77_crossroadsref21_Put at hR
 change WK _ _ _ [ac77] _ ⟨[(0, .ro 2 (l0.map TThing.c))], [], 0⟩
 unfold ac77
 refine WK.sr mixed ?_
 iterate 2 refine GX.m rfl ?_
 refine GX.done ?_
 refine WK.sr mixed ?_
 refine GX.step (v' := .own 0 1 0 (([] : List Int)).length) (heap' := [(0, .row 1 5 (([] : List Int).map c_u8))]) (next' := 1) rfl rfl rfl rfl rfl rfl rfl ?_
 refine GX.m rfl ?_
 refine GX.done ?_
 refine WK.seq ?_
 refine WK.sr mixed ?_
 refine GX.m rfl ?_
 refine GX.done ?_
 refine WK.len (t := 0) rfl (by simp) (fun hlen_7 => ?_)
 rw [List.length_map] at hlen_7
 generalize hZ_7 : F77_crossroadsref21_Put_l1 ([] : List Int) l0 = Z_7 at hR
 refine WK.forK (fun k s => ∃ (i5 : Nat) (b4 : List Int), i5 ≤ l0.length ∧ k = l0.length - i5 ∧ b4.length ≤ 257 * i5 ∧ F77_crossroadsref21_Put_l1 b4 (l0.drop i5) = Z_7 ∧ s = ⟨[(0, .ro 2 (l0.map TThing.c)), (4, .own 0 1 0 b4.length), (5, .int .i64 (i5 : Int))], [(0, .row 1 5 (b4.map c_u8))], 1⟩) l0.length ⟨⟨[(0, .ro 2 (l0.map TThing.c)), (4, .own 0 1 0 ([] : List Int).length), (5, .int .i64 (0 : Int))], [(0, .row 1 5 (([] : List Int).map c_u8))], 1⟩, Conv.keep [0] [] [0, 4, 5] rfl rfl (viewE_cons rfl rfl (viewE_cons rfl rfl (viewE_cons rfl rfl viewE_nil))) rfl rfl, 0, ([] : List Int), (by omega), rfl, (by ((try simp only [List.length_append, List.length_cons, List.length_nil, decide_eq_true_eq, decide_eq_false_iff_not] at *) <;> first | omega | (rw [wrap64_of (by omega) (by omega)]; omega))), hZ_7, rfl⟩ ?_
 rintro _ _ ⟨i5, b4, hi_7, rfl, hinv7_b4, hL_7, rfl⟩ again_7 out_7 Q_7 hagain_7 hout_7 hQ_7
 refine WK.seq ?_
 refine WK.sr mixed ?_
 iterate 2 refine GX.m rfl ?_
 refine GX.pure (v' := .int .i64 (l0.length : Int)) rfl rfl rfl rfl (len_map _ _) ?_
 refine GX.q (.bool (decide ((i5 : Int) < (l0.length : Int)))) ?_
 refine GX.done ?_
 rcases bool_two (decide ((i5 : Int) < (l0.length : Int))) with hb8 | hb8
 ·rw [hb8]
  rw [drop_end hb8, F77_crossroadsref21_Put_l1] at hL_7
  refine WK.condF rfl ?_
  refine WK.exit ?_
  refine QF.exit (hout_7 _ ?_)
  subst hL_7
  try dsimp only [cond_true, cond_false] at hR
  refine WK.sr mixed ?_
  iterate 3 refine GX.m rfl ?_
  refine GX.done ?_
  refine WK.ret ?_
  subst hR
  exact RetQ.fr [0] (.inr rfl) rfl rfl (viewGo_cons (view_rowT rfl rfl) (viewGo_cons rfl viewGo_nil)) rfl
 ·rw [hb8]
  obtain ⟨x5, hx7, hd7, hlt7⟩ := drop_more hb8
  rw [hd7, F77_crossroadsref21_Put_l1] at hL_7
  refine WK.condT rfl ?_
  refine WK.skip ?_
  refine WK.seq ?_
  refine WK.blockK (fun _ hK9 => ?_)
  refine WK.seq ?_
  refine WK.sr mixed ?_
  iterate 2 refine GX.m rfl ?_
  refine GX.idxT (c := TThing.c) (x := x5) rfl rfl rfl (Int.natCast_nonneg _) hx7 ?_
  refine GX.q (.rptr (TThing.c x5)) ?_
  refine GX.q (.int .i64 x5.Kind) ?_
  refine GX.q (.bool (decide (x5.Kind < 0))) ?_
  refine GX.m rfl ?_
  rcases bool_two (decide (x5.Kind < 0)) with hb10 | hb10
  ·rw [hb10]; try simp only [hb10, bb] at hL_7
   iterate 2 refine GX.m rfl ?_
   refine GX.idxT (c := TThing.c) (x := x5) rfl rfl rfl (Int.natCast_nonneg _) hx7 ?_
   refine GX.q (.rptr (TThing.c x5)) ?_
   refine GX.q (.int .i64 x5.Kind) ?_
   iterate 2 refine GX.q (.bool (decide (255 < x5.Kind))) ?_
   refine GX.m rfl ?_
   rcases bool_two (decide (255 < x5.Kind)) with hb11 | hb11
   ·rw [hb11]; try simp only [hb11, bb] at hL_7
    iterate 2 refine GX.m rfl ?_
    refine GX.idxT (c := TThing.c) (x := x5) rfl rfl rfl (Int.natCast_nonneg _) hx7 ?_
    refine GX.q (.rptr [.ro 1 (x5.B.map c_u8)]) ?_
    refine GX.q (.ro 1 (x5.B.map c_u8)) ?_
    refine GX.pure (v' := .int .i64 (x5.B.length : Int)) rfl rfl rfl rfl (len_map _ _) ?_
    iterate 2 refine GX.q (.bool (decide (255 < (x5.B.length : Int)))) ?_
    refine GX.done ?_
    rcases bool_two (decide (255 < (x5.B.length : Int))) with hb12 | hb12
    ·rw [hb12]; try simp only [hb12, bb] at hL_7
     refine WK.condF rfl ?_
     refine WK.skip ?_
     refine WK.seq ?_
     refine WK.drawn mixed ?_
     iterate 3 refine RD.m rfl ?_
     refine RD.idxT (c := TThing.c) (x := x5) rfl rfl rfl (Int.natCast_nonneg _) hx7 ?_
     refine RD.q (.rptr (TThing.c x5)) ?_
     refine RD.q (.int .i64 x5.Kind) ?_
     refine RD.q (.int .u8 (IntKind.u8.wrap x5.Kind)) ?_
     iterate 2 refine RD.m rfl ?_
     refine RD.idxT (c := TThing.c) (x := x5) rfl rfl rfl (Int.natCast_nonneg _) hx7 ?_
     refine RD.q (.rptr [.ro 1 (x5.B.map c_u8)]) ?_
     refine RD.q (.ro 1 (x5.B.map c_u8)) ?_
     refine RD.pure (v' := .int .i64 (x5.B.length : Int)) rfl rfl rfl rfl (len_map _ _) ?_
     refine RD.q (.int .u8 (IntKind.u8.wrap (x5.B.length : Int))) ?_
     refine RD.step (v' := .own 1 1 0 (([IntKind.u8.wrap x5.Kind, IntKind.u8.wrap (x5.B.length : Int)] : List Int)).length) (heap' := [(0, .row 1 5 (b4.map c_u8)), (1, .row 1 5 (([IntKind.u8.wrap x5.Kind, IntKind.u8.wrap (x5.B.length : Int)] : List Int).map c_u8))]) (next' := 2) rfl rfl rfl rfl rfl rfl rfl ?_
     refine RD.appT (c := c_u8) (L := b4) (X := ([IntKind.u8.wrap x5.Kind, IntKind.u8.wrap (x5.B.length : Int)] : List Int)) (heap' := [(1, .row 1 5 (([IntKind.u8.wrap x5.Kind, IntKind.u8.wrap (x5.B.length : Int)] : List Int).map c_u8)), (2, .row 1 5 ((b4 ++ ([IntKind.u8.wrap x5.Kind, IntKind.u8.wrap (x5.B.length : Int)] : List Int)).map c_u8))]) (next' := 3) rfl rfl rfl rfl (elems_own rfl) (by ((try simp only [List.length_append, List.length_cons, List.length_nil, List.length_map, decide_eq_true_eq, decide_eq_false_iff_not] at *) <;> omega)) (by ((try simp only [List.length_append, List.length_cons, List.length_nil, List.length_map, decide_eq_true_eq, decide_eq_false_iff_not] at *) <;> omega)) rfl rfl rfl rfl ?_
     refine RD.m rfl ?_
     refine RD.done rfl ?_
     refine WK.regx mixed ?_
     iterate 3 refine GX.m rfl ?_
     refine GX.idxT (c := TThing.c) (x := x5) rfl rfl rfl (Int.natCast_nonneg _) hx7 ?_
     refine GX.q (.rptr [.ro 1 (x5.B.map c_u8)]) ?_
     refine GX.q (.ro 1 (x5.B.map c_u8)) ?_
     refine GX.appT (c := c_u8) (L := (b4 ++ ([IntKind.u8.wrap x5.Kind, IntKind.u8.wrap (x5.B.length : Int)] : List Int))) (X := x5.B) (heap' := [(1, .row 1 5 (([IntKind.u8.wrap x5.Kind, IntKind.u8.wrap (x5.B.length : Int)] : List Int).map c_u8)), (3, .row 1 5 (((b4 ++ ([IntKind.u8.wrap x5.Kind, IntKind.u8.wrap (x5.B.length : Int)] : List Int)) ++ x5.B).map c_u8))]) (next' := 4) rfl rfl rfl rfl elems_ro (by ((try simp only [List.length_append, List.length_cons, List.length_nil, List.length_map, decide_eq_true_eq, decide_eq_false_iff_not] at *) <;> omega)) (by ((try simp only [List.length_append, List.length_cons, List.length_nil, List.length_map, decide_eq_true_eq, decide_eq_false_iff_not] at *) <;> omega)) rfl rfl rfl rfl ?_
     refine GX.m rfl ?_
     refine GX.done ?_
     refine WK.nil (QF.normal (hK9 _ ?_))
     refine WK.regx mixed ?_
     refine GX.m rfl ?_
     refine GX.pure (v' := .int .i64 ((i5 + 1 : Nat) : Int)) rfl rfl rfl rfl (congrArg (PVal.int .i64) (wrap_up hlt7 hlen_7)) ?_
     refine GX.m rfl ?_
     refine GX.done ?_
     refine WK.nil (QF.normal ?_)
     exact hagain_7 _ (l0.length - (i5 + 1)) ⟨[(0, .ro 2 (l0.map TThing.c)), (4, .own 0 1 0 ((b4 ++ ([IntKind.u8.wrap x5.Kind, IntKind.u8.wrap (x5.B.length : Int)] : List Int)) ++ x5.B).length), (5, .int .i64 ((i5 + 1) : Int))], [(0, .row 1 5 (((b4 ++ ([IntKind.u8.wrap x5.Kind, IntKind.u8.wrap (x5.B.length : Int)] : List Int)) ++ x5.B).map c_u8))], 1⟩ (by omega) (Conv.keep [3] [] [0, 4, 5] rfl rfl (viewE_cons rfl rfl (viewE_cons rfl rfl (viewE_cons rfl rfl viewE_nil))) rfl rfl) ⟨i5 + 1, ((b4 ++ ([IntKind.u8.wrap x5.Kind, IntKind.u8.wrap (x5.B.length : Int)] : List Int)) ++ x5.B), (by omega), rfl, (by ((try simp only [List.length_append, List.length_cons, List.length_nil, decide_eq_true_eq, decide_eq_false_iff_not] at *) <;> first | omega | (rw [wrap64_of (by omega) (by omega)]; omega))), hL_7, rfl⟩
    ·rw [hb12]; try simp only [hb12, bb] at hL_7
     refine WK.condT rfl ?_
     refine WK.sr mixed ?_
     iterate 2 refine GX.m rfl ?_
     refine GX.done ?_
     refine WK.ret ?_
     refine QF.ret ?_
     refine QF.ret (hQ_7 _ _ ?_)
     subst hL_7
     subst hR
     exact RetQ.frw [] (.inr rfl) rfl rfl rfl (.tup (.cons .nil .refl))
   ·rw [hb11]; try simp only [hb11, bb] at hL_7
    iterate 7 refine GX.skip rfl rfl ?_
    refine GX.q (.bool true) ?_
    refine GX.done ?_
    refine WK.condT rfl ?_
    refine WK.sr mixed ?_
    iterate 2 refine GX.m rfl ?_
    refine GX.done ?_
    refine WK.ret ?_
    refine QF.ret ?_
    refine QF.ret (hQ_7 _ _ ?_)
    subst hL_7
    subst hR
    exact RetQ.frw [] (.inr rfl) rfl rfl rfl (.tup (.cons .nil .refl))
  ·rw [hb10]; try simp only [hb10, bb] at hL_7
   iterate 6 refine GX.skip rfl rfl ?_
   refine GX.q (.bool true) ?_
   refine GX.m rfl ?_
   iterate 7 refine GX.skip rfl rfl ?_
   refine GX.q (.bool true) ?_
   refine GX.done ?_
   refine WK.condT rfl ?_
   refine WK.sr mixed ?_
   iterate 2 refine GX.m rfl ?_
   refine GX.done ?_
   refine WK.ret ?_
   refine QF.ret ?_
   refine QF.ret (hQ_7 _ _ ?_)
   subst hL_7
   subst hR
   exact RetQ.frw [] (.inr rfl) rfl rfl rfl (.tup (.cons .nil .refl))

theorem f78_ok (n0 : Int) (R : Bool) (hR : F78_crossroadsref22_short n0 = R) : FnOk Try.prog 78 [.int .i64 n0] [] 0 (.bool R) [] 0 := by
 refine FnOk.wk i78 rfl rfl ?_
 unfold F78_crossroadsref22_short at hR
 change WK _ _ _ [ac78] _ ⟨[(0, .int .i64 n0)], [], 0⟩
 unfold ac78
 refine WK.sr mixed ?_
 refine GX.m rfl ?_
 refine GX.done ?_
 refine WK.sr mixed ?_
 refine GX.m rfl ?_
 refine GX.q (.bool (decide (0 ≤ n0))) ?_
 refine GX.m rfl ?_
 rcases bool_two (decide (0 ≤ n0)) with hb1 | hb1
 ·rw [hb1]; try simp only [hb1, bb] at hR
  iterate 2 refine GX.skip rfl rfl ?_
  refine GX.q (.bool false) ?_
  refine GX.m rfl ?_
  refine GX.done ?_
  refine WK.ret ?_
  subst hR
  exact RetQ.fr [] (.inr rfl) rfl rfl rfl rfl
 ·rw [hb1]; try simp only [hb1, bb] at hR
  refine GX.m rfl ?_
  iterate 2 refine GX.q (.bool (decide (n0 ≤ 65535))) ?_
  refine GX.m rfl ?_
  refine GX.done ?_
  refine WK.ret ?_
  subst hR
  exact RetQ.fr [] (.inr rfl) rfl rfl rfl rfl

theorem f79_ok (head0 : Int) (kind1 : Int) (R : (List Int)) (hR : F79_crossroadsref22_begin head0 kind1 = R) : FnOk Try.prog 79 [.int .i64 head0, .int .i64 kind1] [] 0 (.own 0 1 0 R.length) [(0, .row 1 5 (R.map c_u8))] 1 := by
 refine FnOk.wk i79 rfl rfl ?_
 unfold F79_crossroadsref22_begin at hR
 change WK _ _ _ [ac79] _ ⟨[(0, .int .i64 head0), (1, .int .i64 kind1)], [], 0⟩
 unfold ac79
 refine WK.sr mixed ?_
 refine GX.m rfl ?_
 refine GX.done ?_
 refine WK.sr mixed ?_
 refine GX.m rfl ?_
 refine GX.q (.int .u8 (IntKind.u8.wrap head0)) ?_
 refine GX.m rfl ?_
 refine GX.q (.int .u8 (IntKind.u8.wrap kind1)) ?_
 refine GX.step (v' := .own 0 1 0 (([131, IntKind.u8.wrap head0, 1, 0, IntKind.u8.wrap kind1, 1, 0, 0] : List Int)).length) (heap' := [(0, .row 1 5 (([131, IntKind.u8.wrap head0, 1, 0, IntKind.u8.wrap kind1, 1, 0, 0] : List Int).map c_u8))]) (next' := 1) rfl rfl rfl rfl rfl rfl rfl ?_
 refine GX.m rfl ?_
 refine GX.done ?_
 refine WK.ret ?_
 subst hR
 exact RetQ.ret [0] [] (.inr rfl) rfl rfl rfl rfl rfl .refl rfl

theorem f80_ok (n0 : Int) (R : (List Int)) (hR : F80_crossroadsref22_two n0 = R) : FnOk Try.prog 80 [.int .i64 n0] [] 0 (.ro 1 (R.map c_u8)) [] 0 := by
 refine FnOk.wk i80 rfl rfl ?_
 unfold F80_crossroadsref22_two at hR
 change WK _ _ _ [ac80] _ ⟨[(0, .int .i64 n0)], [], 0⟩
 unfold ac80
 refine WK.sr mixed ?_
 refine GX.m rfl ?_
 refine GX.done ?_
 refine WK.sr mixed ?_
 refine GX.m rfl ?_
 refine GX.q (.int .i64 (IntKind.i64.wrap (Int.tdiv n0 256))) ?_
 refine GX.q (.int .u8 (IntKind.u8.wrap (IntKind.i64.wrap (Int.tdiv n0 256)))) ?_
 refine GX.m rfl ?_
 refine GX.q (.int .i64 (Int.tmod n0 256)) ?_
 refine GX.q (.int .u8 (IntKind.u8.wrap (Int.tmod n0 256))) ?_
 refine GX.step (v' := .own 0 1 0 (([IntKind.u8.wrap (IntKind.i64.wrap (Int.tdiv n0 256)), IntKind.u8.wrap (Int.tmod n0 256)] : List Int)).length) (heap' := [(0, .row 1 5 (([IntKind.u8.wrap (IntKind.i64.wrap (Int.tdiv n0 256)), IntKind.u8.wrap (Int.tmod n0 256)] : List Int).map c_u8))]) (next' := 1) rfl rfl rfl rfl rfl rfl rfl ?_
 refine GX.m rfl ?_
 refine GX.done ?_
 refine WK.ret ?_
 subst hR
 exact RetQ.fr [0] (.inr rfl) rfl rfl (viewGo_cons (view_rowT rfl rfl) viewGo_nil) rfl

theorem f82_ok (n0 : Int) (R : (List Int)) (hR : F82_crossroadsref01_Four n0 = R) : FnOk Try.prog 82 [.int .u32 n0] [] 0 (.own 0 1 0 R.length) [(0, .row 1 5 (R.map c_u8))] 1 := by
 refine FnOk.wk i82 rfl rfl ?_
 unfold F82_crossroadsref01_Four at hR
 change WK _ _ _ [ac82] _ ⟨[(0, .int .u32 n0)], [], 0⟩
 unfold ac82
 refine WK.sr mixed ?_
 refine GX.m rfl ?_
 refine GX.done ?_
 refine WK.sr mixed ?_
 refine GX.m rfl ?_
 refine GX.q (.int .u32 (Int.fdiv n0 (2 ^ 24))) ?_
 refine GX.q (.int .u8 (IntKind.u8.wrap (Int.fdiv n0 (2 ^ 24)))) ?_
 refine GX.m rfl ?_
 refine GX.q (.int .u32 (Int.fdiv n0 (2 ^ 16))) ?_
 refine GX.q (.int .u8 (IntKind.u8.wrap (Int.fdiv n0 (2 ^ 16)))) ?_
 refine GX.m rfl ?_
 refine GX.q (.int .u32 (Int.fdiv n0 (2 ^ 8))) ?_
 refine GX.q (.int .u8 (IntKind.u8.wrap (Int.fdiv n0 (2 ^ 8)))) ?_
 refine GX.m rfl ?_
 refine GX.q (.int .u8 (IntKind.u8.wrap n0)) ?_
 refine GX.step (v' := .own 0 1 0 (([IntKind.u8.wrap (Int.fdiv n0 (2 ^ 24)), IntKind.u8.wrap (Int.fdiv n0 (2 ^ 16)), IntKind.u8.wrap (Int.fdiv n0 (2 ^ 8)), IntKind.u8.wrap n0] : List Int)).length) (heap' := [(0, .row 1 5 (([IntKind.u8.wrap (Int.fdiv n0 (2 ^ 24)), IntKind.u8.wrap (Int.fdiv n0 (2 ^ 16)), IntKind.u8.wrap (Int.fdiv n0 (2 ^ 8)), IntKind.u8.wrap n0] : List Int).map c_u8))]) (next' := 1) rfl rfl rfl rfl rfl rfl rfl ?_
 refine GX.m rfl ?_
 refine GX.done ?_
 refine WK.ret ?_
 subst hR
 exact RetQ.ret [0] [] (.inr rfl) rfl rfl rfl rfl rfl .refl rfl

theorem f81_ok (n0 : Int) (R : (List Int)) (hR : F81_crossroadsref22_eight n0 = R) : FnOk Try.prog 81 [.int .u64 n0] [] 0 (.own 0 1 0 R.length) [(0, .row 1 5 (R.map c_u8))] 1 := by
 refine FnOk.wk i81 rfl rfl ?_
 unfold F81_crossroadsref22_eight at hR
 change WK _ _ _ [ac81] _ ⟨[(0, .int .u64 n0)], [], 0⟩
 unfold ac81
 refine WK.sr mixed ?_
 refine GX.m rfl ?_
 refine GX.done ?_
 refine WK.sr mixed ?_
 refine GX.m rfl ?_
 refine GX.q (.int .u64 (Int.fdiv n0 (2 ^ 32))) ?_
 refine GX.q (.int .u32 (IntKind.u32.wrap (Int.fdiv n0 (2 ^ 32)))) ?_
 generalize hc6 : F82_crossroadsref01_Four (IntKind.u32.wrap (Int.fdiv n0 (2 ^ 32))) = c6 at hR
 have hpo0_c6 := post_Four (IntKind.u32.wrap (Int.fdiv n0 (2 ^ 32))); rw [hc6] at hpo0_c6
 try dsimp only at hR
 refine GX.callx (r' := .own 0 1 0 c6.length) (heap' := [(0, .row 1 5 (c6.map c_u8))]) (next' := 1) [] [] rfl rfl rfl rfl rfl rfl (f82_ok (IntKind.u32.wrap (Int.fdiv n0 (2 ^ 32))) _ hc6) (.inl rfl) rfl rfl rfl ?_
 refine GX.m rfl ?_
 refine GX.q (.int .u32 (IntKind.u32.wrap n0)) ?_
 generalize hc9 : F82_crossroadsref01_Four (IntKind.u32.wrap n0) = c9 at hR
 have hpo0_c9 := post_Four (IntKind.u32.wrap n0); rw [hc9] at hpo0_c9
 try dsimp only at hR
 refine GX.callx (r' := .own 1 1 0 c9.length) (heap' := [(0, .row 1 5 (c6.map c_u8)), (1, .row 1 5 (c9.map c_u8))]) (next' := 2) [] [] rfl rfl rfl rfl rfl rfl (f82_ok (IntKind.u32.wrap n0) _ hc9) (.inl rfl) rfl rfl rfl ?_
 refine GX.appT (c := c_u8) (L := c6) (X := c9) (heap' := [(1, .row 1 5 (c9.map c_u8)), (2, .row 1 5 ((c6 ++ c9).map c_u8))]) (next' := 3) rfl rfl rfl rfl (elems_own rfl) (by omega) (by omega) rfl rfl rfl rfl ?_
 refine GX.m rfl ?_
 refine GX.done ?_
 refine WK.ret ?_
 subst hR
 exact RetQ.ret [2] [] (.inr rfl) rfl rfl rfl rfl rfl .refl rfl

theorem f68_ok (x0 : TLsp) (hp0 : x0.Things.length ≤ 100) (R : (List Int) × Int) (hR : F68_crossroadsref22_PutLsp x0 = R) : FnOk Try.prog 68 [.agg (TLsp.c x0)] [] 0 (.tup [.ro 1 (R.1.map c_u8), .int .i64 R.2]) [] 0 := by
 refine FnOk.wk i68 rfl rfl ?_
 unfold F68_crossroadsref22_PutLsp at hR
 change WK _ _ _ [ac68] _ ⟨[(0, .agg (TLsp.c x0))], [], 0⟩
 unfold ac68
 refine WK.sr mixed ?_
 refine GX.step (v' := .ptr 0 0) (heap' := [(0, .box (TLsp.c x0))]) (next' := 1) rfl rfl rfl rfl rfl rfl rfl ?_
 iterate 2 refine GX.m rfl ?_
 refine GX.done ?_
 refine WK.sr mixed ?_
 refine GX.q (.ptr 0 6) ?_
 refine GX.q (.ro 2 (x0.Things.map TThing.c)) ?_
 generalize hc10 : F77_crossroadsref21_Put x0.Things = c10 at hR
 have hpo0_c10 := post_tput2 x0.Things (by omega); rw [hc10] at hpo0_c10
 obtain ⟨c10a, c10b⟩ := c10; try dsimp only at hR; try dsimp only at hpo0_c10
 refine GX.callp (r := .tup [.ro 1 (c10a.map c_u8), .int .i64 c10b]) rfl rfl rfl (f77_ok x0.Things (by omega) _ hc10) rfl rfl ?_
 refine GX.m rfl ?_
 refine GX.q (.ro 1 (c10a.map c_u8)) ?_
 refine GX.q (.int .i64 c10b) ?_
 iterate 2 refine GX.m rfl ?_
 refine GX.done ?_
 refine WK.seq ?_
 refine WK.sr mixed ?_
 refine GX.m rfl ?_
 refine GX.q (.bool (!decide (c10b = 0))) ?_
 refine GX.m rfl ?_
 rcases bool_two (decide (c10b = 0)) with hb1 | hb1
 ·rw [hb1]; try simp only [hb1, bb] at hR
  iterate 3 refine GX.skip rfl rfl ?_
  refine GX.q (.bool true) ?_
  refine GX.m rfl ?_
  iterate 3 refine GX.skip rfl rfl ?_
  refine GX.q (.bool true) ?_
  refine GX.m rfl ?_
  iterate 4 refine GX.skip rfl rfl ?_
  refine GX.q (.bool true) ?_
  refine GX.m rfl ?_
  iterate 4 refine GX.skip rfl rfl ?_
  refine GX.q (.bool true) ?_
  refine GX.m rfl ?_
  iterate 3 refine GX.skip rfl rfl ?_
  refine GX.q (.bool true) ?_
  refine GX.m rfl ?_
  iterate 3 refine GX.skip rfl rfl ?_
  refine GX.q (.bool true) ?_
  refine GX.m rfl ?_
  iterate 3 refine GX.skip rfl rfl ?_
  refine GX.q (.bool true) ?_
  refine GX.done ?_
  refine WK.condT rfl ?_
  refine WK.sr mixed ?_
  iterate 2 refine GX.m rfl ?_
  refine GX.done ?_
  refine WK.ret ?_
  subst hR
  exact RetQ.frw [] (.inr rfl) rfl rfl rfl (.tup (.cons .nil .refl))
 ·rw [hb1]; try simp only [hb1, bb] at hR
  refine GX.q (.ptr 0 0) ?_
  refine GX.q (.int .i64 x0.Level) ?_
  iterate 2 refine GX.q (.bool (decide (x0.Level < 1))) ?_
  refine GX.m rfl ?_
  rcases bool_two (decide (x0.Level < 1)) with hb2 | hb2
  ·rw [hb2]; try simp only [hb2, bb] at hR
   refine GX.q (.ptr 0 0) ?_
   refine GX.q (.int .i64 x0.Level) ?_
   iterate 2 refine GX.q (.bool (decide (2 < x0.Level))) ?_
   refine GX.m rfl ?_
   rcases bool_two (decide (2 < x0.Level)) with hb3 | hb3
   ·rw [hb3]; try simp only [hb3, bb] at hR
    refine GX.q (.ptr 0 1) ?_
    refine GX.q (.int .i64 x0.Life) ?_
    generalize hc28 : F78_crossroadsref22_short x0.Life = c28 at hR
    try dsimp only at hR
    refine GX.callp (r := .bool c28) rfl rfl rfl (f78_ok x0.Life _ hc28) rfl rfl ?_
    iterate 2 refine GX.q (.bool (!c28)) ?_
    refine GX.m rfl ?_
    rcases bool_two (c28) with hb4 | hb4
    ·rw [hb4]; try simp only [hb4, bb] at hR
     iterate 4 refine GX.skip rfl rfl ?_
     refine GX.q (.bool true) ?_
     refine GX.m rfl ?_
     iterate 3 refine GX.skip rfl rfl ?_
     refine GX.q (.bool true) ?_
     refine GX.m rfl ?_
     iterate 3 refine GX.skip rfl rfl ?_
     refine GX.q (.bool true) ?_
     refine GX.m rfl ?_
     iterate 3 refine GX.skip rfl rfl ?_
     refine GX.q (.bool true) ?_
     refine GX.done ?_
     refine WK.condT rfl ?_
     refine WK.sr mixed ?_
     iterate 2 refine GX.m rfl ?_
     refine GX.done ?_
     refine WK.ret ?_
     subst hR
     exact RetQ.frw [] (.inr rfl) rfl rfl rfl (.tup (.cons .nil .refl))
    ·rw [hb4]; try simp only [hb4, bb] at hR
     refine GX.q (.ptr 0 4) ?_
     refine GX.q (.int .i64 x0.Sum) ?_
     generalize hc34 : F78_crossroadsref22_short x0.Sum = c34 at hR
     try dsimp only at hR
     refine GX.callp (r := .bool c34) rfl rfl rfl (f78_ok x0.Sum _ hc34) rfl rfl ?_
     iterate 2 refine GX.q (.bool (!c34)) ?_
     refine GX.m rfl ?_
     rcases bool_two (c34) with hb5 | hb5
     ·rw [hb5]; try simp only [hb5, bb] at hR
      iterate 3 refine GX.skip rfl rfl ?_
      refine GX.q (.bool true) ?_
      refine GX.m rfl ?_
      iterate 3 refine GX.skip rfl rfl ?_
      refine GX.q (.bool true) ?_
      refine GX.m rfl ?_
      iterate 3 refine GX.skip rfl rfl ?_
      refine GX.q (.bool true) ?_
      refine GX.done ?_
      refine WK.condT rfl ?_
      refine WK.sr mixed ?_
      iterate 2 refine GX.m rfl ?_
      refine GX.done ?_
      refine WK.ret ?_
      subst hR
      exact RetQ.frw [] (.inr rfl) rfl rfl rfl (.tup (.cons .nil .refl))
     ·rw [hb5]; try simp only [hb5, bb] at hR
      refine GX.q (.ptr 0 5) ?_
      refine GX.q (.int .i64 x0.Bits) ?_
      iterate 2 refine GX.q (.bool (decide (x0.Bits < 0))) ?_
      refine GX.m rfl ?_
      rcases bool_two (decide (x0.Bits < 0)) with hb6 | hb6
      ·rw [hb6]; try simp only [hb6, bb] at hR
       refine GX.q (.ptr 0 5) ?_
       refine GX.q (.int .i64 x0.Bits) ?_
       iterate 2 refine GX.q (.bool (decide (63 < x0.Bits))) ?_
       refine GX.m rfl ?_
       rcases bool_two (decide (63 < x0.Bits)) with hb7 | hb7
       ·rw [hb7]; try simp only [hb7, bb] at hR
        refine GX.m rfl ?_
        refine GX.pure (v' := .int .i64 (c10a.length : Int)) rfl rfl rfl rfl (len_map _ _) ?_
        iterate 2 refine GX.q (.bool (decide (1465 < (c10a.length : Int)))) ?_
        refine GX.done ?_
        rcases bool_two (decide (1465 < (c10a.length : Int))) with hb8 | hb8
        ·rw [hb8]; try simp only [hb8, bb] at hR
         refine WK.condF rfl ?_
         refine WK.skip ?_
         refine WK.sr mixed ?_
         refine GX.q (.ptr 0 0) ?_
         refine GX.q (.int .i64 x0.Level) ?_
         refine GX.q (.int .i64 (IntKind.i64.wrap (2 * x0.Level))) ?_
         refine GX.q (.int .i64 (IntKind.i64.wrap (16 + (IntKind.i64.wrap (2 * x0.Level))))) ?_
         generalize hc56 : F79_crossroadsref22_begin 27 (IntKind.i64.wrap (16 + (IntKind.i64.wrap (2 * x0.Level)))) = c56 at hR
         have hpo0_c56 := post_rbegin 27 (IntKind.i64.wrap (16 + (IntKind.i64.wrap (2 * x0.Level)))); rw [hc56] at hpo0_c56
         try dsimp only at hR
         refine GX.callx (r' := .own 1 1 0 c56.length) (heap' := [(0, .box (TLsp.c x0)), (1, .row 1 5 (c56.map c_u8))]) (next' := 2) [] [] rfl rfl rfl rfl rfl rfl (f79_ok 27 (IntKind.i64.wrap (16 + (IntKind.i64.wrap (2 * x0.Level)))) _ hc56) (.inl rfl) rfl rfl rfl ?_
         refine GX.m rfl ?_
         refine GX.pure (v' := .int .i64 (c10a.length : Int)) rfl rfl rfl rfl (len_map _ _) ?_
         refine GX.q (.int .i64 (IntKind.i64.wrap (27 + (c10a.length : Int)))) ?_
         generalize hc60 : F80_crossroadsref22_two (IntKind.i64.wrap (27 + (c10a.length : Int))) = c60 at hR
         have hpo0_c60 := post_two (IntKind.i64.wrap (27 + (c10a.length : Int))); rw [hc60] at hpo0_c60
         try dsimp only at hR
         refine GX.callp (r := .ro 1 (c60.map c_u8)) rfl rfl rfl (f80_ok (IntKind.i64.wrap (27 + (c10a.length : Int))) _ hc60) rfl rfl ?_
         refine GX.appT (c := c_u8) (L := c56) (X := c60) (heap' := [(0, .box (TLsp.c x0)), (2, .row 1 5 ((c56 ++ c60).map c_u8))]) (next' := 3) rfl rfl rfl rfl elems_ro (by omega) (by omega) rfl rfl rfl rfl ?_
         refine GX.m rfl ?_
         refine GX.done ?_
         refine WK.sr mixed ?_
         refine GX.m rfl ?_
         refine GX.q (.ptr 0 1) ?_
         refine GX.q (.int .i64 x0.Life) ?_
         generalize hc65 : F80_crossroadsref22_two x0.Life = c65 at hR
         have hpo0_c65 := post_two x0.Life; rw [hc65] at hpo0_c65
         try dsimp only at hR
         refine GX.callp (r := .ro 1 (c65.map c_u8)) rfl rfl rfl (f80_ok x0.Life _ hc65) rfl rfl ?_
         refine GX.appT (c := c_u8) (L := (c56 ++ c60)) (X := c65) (heap' := [(0, .box (TLsp.c x0)), (3, .row 1 5 (((c56 ++ c60) ++ c65).map c_u8))]) (next' := 4) rfl rfl rfl rfl elems_ro (by ((try simp only [List.length_append, List.length_cons, List.length_nil, List.length_map, decide_eq_true_eq, decide_eq_false_iff_not] at *) <;> omega)) (by ((try simp only [List.length_append, List.length_cons, List.length_nil, List.length_map, decide_eq_true_eq, decide_eq_false_iff_not] at *) <;> omega)) rfl rfl rfl rfl ?_
         refine GX.m rfl ?_
         refine GX.done ?_
         refine WK.sr mixed ?_
         refine GX.m rfl ?_
         refine GX.q (.ptr 0 2) ?_
         refine GX.q (.int .u64 x0.ID) ?_
         generalize hc70 : F81_crossroadsref22_eight x0.ID = c70 at hR
         have hpo0_c70 := post_eight x0.ID; rw [hc70] at hpo0_c70
         try dsimp only at hR
         refine GX.callx (r' := .own 4 1 0 c70.length) (heap' := [(0, .box (TLsp.c x0)), (3, .row 1 5 (((c56 ++ c60) ++ c65).map c_u8)), (4, .row 1 5 (c70.map c_u8))]) (next' := 5) [] [] rfl rfl rfl rfl rfl rfl (f81_ok x0.ID _ hc70) (.inl rfl) rfl rfl rfl ?_
         refine GX.appT (c := c_u8) (L := ((c56 ++ c60) ++ c65)) (X := c70) (heap' := [(0, .box (TLsp.c x0)), (4, .row 1 5 (c70.map c_u8)), (5, .row 1 5 ((((c56 ++ c60) ++ c65) ++ c70).map c_u8))]) (next' := 6) rfl rfl rfl rfl (elems_own rfl) (by ((try simp only [List.length_append, List.length_cons, List.length_nil, List.length_map, decide_eq_true_eq, decide_eq_false_iff_not] at *) <;> omega)) (by ((try simp only [List.length_append, List.length_cons, List.length_nil, List.length_map, decide_eq_true_eq, decide_eq_false_iff_not] at *) <;> omega)) rfl rfl rfl rfl ?_
         refine GX.m rfl ?_
         refine GX.done ?_
         refine WK.sr mixed ?_
         refine GX.m rfl ?_
         refine GX.q (.ptr 0 3) ?_
         refine GX.q (.int .u32 x0.Seq) ?_
         generalize hc75 : F82_crossroadsref01_Four x0.Seq = c75 at hR
         have hpo0_c75 := post_Four x0.Seq; rw [hc75] at hpo0_c75
         try dsimp only at hR
         refine GX.callx (r' := .own 6 1 0 c75.length) (heap' := [(0, .box (TLsp.c x0)), (4, .row 1 5 (c70.map c_u8)), (5, .row 1 5 ((((c56 ++ c60) ++ c65) ++ c70).map c_u8)), (6, .row 1 5 (c75.map c_u8))]) (next' := 7) [] [] rfl rfl rfl rfl rfl rfl (f82_ok x0.Seq _ hc75) (.inl rfl) rfl rfl rfl ?_
         refine GX.appT (c := c_u8) (L := (((c56 ++ c60) ++ c65) ++ c70)) (X := c75) (heap' := [(0, .box (TLsp.c x0)), (4, .row 1 5 (c70.map c_u8)), (6, .row 1 5 (c75.map c_u8)), (7, .row 1 5 (((((c56 ++ c60) ++ c65) ++ c70) ++ c75).map c_u8))]) (next' := 8) rfl rfl rfl rfl (elems_own rfl) (by ((try simp only [List.length_append, List.length_cons, List.length_nil, List.length_map, decide_eq_true_eq, decide_eq_false_iff_not] at *) <;> omega)) (by ((try simp only [List.length_append, List.length_cons, List.length_nil, List.length_map, decide_eq_true_eq, decide_eq_false_iff_not] at *) <;> omega)) rfl rfl rfl rfl ?_
         refine GX.m rfl ?_
         refine GX.done ?_
         refine WK.sr mixed ?_
         refine GX.m rfl ?_
         refine GX.q (.ptr 0 4) ?_
         refine GX.q (.int .i64 x0.Sum) ?_
         generalize hc80 : F80_crossroadsref22_two x0.Sum = c80 at hR
         have hpo0_c80 := post_two x0.Sum; rw [hc80] at hpo0_c80
         try dsimp only at hR
         refine GX.callp (r := .ro 1 (c80.map c_u8)) rfl rfl rfl (f80_ok x0.Sum _ hc80) rfl rfl ?_
         refine GX.appT (c := c_u8) (L := ((((c56 ++ c60) ++ c65) ++ c70) ++ c75)) (X := c80) (heap' := [(0, .box (TLsp.c x0)), (4, .row 1 5 (c70.map c_u8)), (6, .row 1 5 (c75.map c_u8)), (8, .row 1 5 ((((((c56 ++ c60) ++ c65) ++ c70) ++ c75) ++ c80).map c_u8))]) (next' := 9) rfl rfl rfl rfl elems_ro (by ((try simp only [List.length_append, List.length_cons, List.length_nil, List.length_map, decide_eq_true_eq, decide_eq_false_iff_not] at *) <;> omega)) (by ((try simp only [List.length_append, List.length_cons, List.length_nil, List.length_map, decide_eq_true_eq, decide_eq_false_iff_not] at *) <;> omega)) rfl rfl rfl rfl ?_
         refine GX.m rfl ?_
         refine GX.done ?_
         refine WK.sr mixed ?_
         refine GX.m rfl ?_
         refine GX.q (.ptr 0 5) ?_
         refine GX.q (.int .i64 x0.Bits) ?_
         refine GX.q (.int .i64 (IntKind.i64.wrap (4 * x0.Bits))) ?_
         refine GX.q (.ptr 0 0) ?_
         refine GX.q (.int .i64 x0.Level) ?_
         refine GX.q (.int .i64 (IntKind.i64.wrap (2 * x0.Level))) ?_
         refine GX.q (.int .i64 (IntKind.i64.wrap ((IntKind.i64.wrap (4 * x0.Bits)) + (IntKind.i64.wrap (2 * x0.Level))))) ?_
         refine GX.q (.int .i64 (IntKind.i64.wrap ((IntKind.i64.wrap ((IntKind.i64.wrap (4 * x0.Bits)) + (IntKind.i64.wrap (2 * x0.Level)))) - 1))) ?_
         refine GX.q (.int .u8 (IntKind.u8.wrap (IntKind.i64.wrap ((IntKind.i64.wrap ((IntKind.i64.wrap (4 * x0.Bits)) + (IntKind.i64.wrap (2 * x0.Level)))) - 1)))) ?_
         refine GX.step (v' := .own 9 1 0 (([IntKind.u8.wrap (IntKind.i64.wrap ((IntKind.i64.wrap ((IntKind.i64.wrap (4 * x0.Bits)) + (IntKind.i64.wrap (2 * x0.Level)))) - 1))] : List Int)).length) (heap' := [(0, .box (TLsp.c x0)), (4, .row 1 5 (c70.map c_u8)), (6, .row 1 5 (c75.map c_u8)), (8, .row 1 5 ((((((c56 ++ c60) ++ c65) ++ c70) ++ c75) ++ c80).map c_u8)), (9, .row 1 5 (([IntKind.u8.wrap (IntKind.i64.wrap ((IntKind.i64.wrap ((IntKind.i64.wrap (4 * x0.Bits)) + (IntKind.i64.wrap (2 * x0.Level)))) - 1))] : List Int).map c_u8))]) (next' := 10) rfl rfl rfl rfl rfl rfl rfl ?_
         refine GX.appT (c := c_u8) (L := (((((c56 ++ c60) ++ c65) ++ c70) ++ c75) ++ c80)) (X := ([IntKind.u8.wrap (IntKind.i64.wrap ((IntKind.i64.wrap ((IntKind.i64.wrap (4 * x0.Bits)) + (IntKind.i64.wrap (2 * x0.Level)))) - 1))] : List Int)) (heap' := [(0, .box (TLsp.c x0)), (4, .row 1 5 (c70.map c_u8)), (6, .row 1 5 (c75.map c_u8)), (9, .row 1 5 (([IntKind.u8.wrap (IntKind.i64.wrap ((IntKind.i64.wrap ((IntKind.i64.wrap (4 * x0.Bits)) + (IntKind.i64.wrap (2 * x0.Level)))) - 1))] : List Int).map c_u8)), (10, .row 1 5 (((((((c56 ++ c60) ++ c65) ++ c70) ++ c75) ++ c80) ++ ([IntKind.u8.wrap (IntKind.i64.wrap ((IntKind.i64.wrap ((IntKind.i64.wrap (4 * x0.Bits)) + (IntKind.i64.wrap (2 * x0.Level)))) - 1))] : List Int)).map c_u8))]) (next' := 11) rfl rfl rfl rfl (elems_own rfl) (by ((try simp only [List.length_append, List.length_cons, List.length_nil, List.length_map, decide_eq_true_eq, decide_eq_false_iff_not] at *) <;> omega)) (by ((try simp only [List.length_append, List.length_cons, List.length_nil, List.length_map, decide_eq_true_eq, decide_eq_false_iff_not] at *) <;> omega)) rfl rfl rfl rfl ?_
         refine GX.m rfl ?_
         refine GX.done ?_
         refine WK.sr mixed ?_
         iterate 2 refine GX.m rfl ?_
         refine GX.appT (c := c_u8) (L := ((((((c56 ++ c60) ++ c65) ++ c70) ++ c75) ++ c80) ++ ([IntKind.u8.wrap (IntKind.i64.wrap ((IntKind.i64.wrap ((IntKind.i64.wrap (4 * x0.Bits)) + (IntKind.i64.wrap (2 * x0.Level)))) - 1))] : List Int))) (X := c10a) (heap' := [(0, .box (TLsp.c x0)), (4, .row 1 5 (c70.map c_u8)), (6, .row 1 5 (c75.map c_u8)), (9, .row 1 5 (([IntKind.u8.wrap (IntKind.i64.wrap ((IntKind.i64.wrap ((IntKind.i64.wrap (4 * x0.Bits)) + (IntKind.i64.wrap (2 * x0.Level)))) - 1))] : List Int).map c_u8)), (11, .row 1 5 ((((((((c56 ++ c60) ++ c65) ++ c70) ++ c75) ++ c80) ++ ([IntKind.u8.wrap (IntKind.i64.wrap ((IntKind.i64.wrap ((IntKind.i64.wrap (4 * x0.Bits)) + (IntKind.i64.wrap (2 * x0.Level)))) - 1))] : List Int)) ++ c10a).map c_u8))]) (next' := 12) rfl rfl rfl rfl elems_ro (by ((try simp only [List.length_append, List.length_cons, List.length_nil, List.length_map, decide_eq_true_eq, decide_eq_false_iff_not] at *) <;> omega)) (by ((try simp only [List.length_append, List.length_cons, List.length_nil, List.length_map, decide_eq_true_eq, decide_eq_false_iff_not] at *) <;> omega)) rfl rfl rfl rfl ?_
         iterate 2 refine GX.m rfl ?_
         refine GX.done ?_
         refine WK.ret ?_
         subst hR
         exact RetQ.fr [11] (.inr rfl) rfl rfl (viewGo_cons (view_rowT rfl rfl) (viewGo_cons rfl viewGo_nil)) rfl
        ·rw [hb8]; try simp only [hb8, bb] at hR
         refine WK.condT rfl ?_
         refine WK.sr mixed ?_
         iterate 2 refine GX.m rfl ?_
         refine GX.done ?_
         refine WK.ret ?_
         subst hR
         exact RetQ.frw [] (.inr rfl) rfl rfl rfl (.tup (.cons .nil .refl))
       ·rw [hb7]; try simp only [hb7, bb] at hR
        iterate 3 refine GX.skip rfl rfl ?_
        refine GX.q (.bool true) ?_
        refine GX.done ?_
        refine WK.condT rfl ?_
        refine WK.sr mixed ?_
        iterate 2 refine GX.m rfl ?_
        refine GX.done ?_
        refine WK.ret ?_
        subst hR
        exact RetQ.frw [] (.inr rfl) rfl rfl rfl (.tup (.cons .nil .refl))
      ·rw [hb6]; try simp only [hb6, bb] at hR
       iterate 3 refine GX.skip rfl rfl ?_
       refine GX.q (.bool true) ?_
       refine GX.m rfl ?_
       iterate 3 refine GX.skip rfl rfl ?_
       refine GX.q (.bool true) ?_
       refine GX.done ?_
       refine WK.condT rfl ?_
       refine WK.sr mixed ?_
       iterate 2 refine GX.m rfl ?_
       refine GX.done ?_
       refine WK.ret ?_
       subst hR
       exact RetQ.frw [] (.inr rfl) rfl rfl rfl (.tup (.cons .nil .refl))
   ·rw [hb3]; try simp only [hb3, bb] at hR
    iterate 4 refine GX.skip rfl rfl ?_
    refine GX.q (.bool true) ?_
    refine GX.m rfl ?_
    iterate 4 refine GX.skip rfl rfl ?_
    refine GX.q (.bool true) ?_
    refine GX.m rfl ?_
    iterate 3 refine GX.skip rfl rfl ?_
    refine GX.q (.bool true) ?_
    refine GX.m rfl ?_
    iterate 3 refine GX.skip rfl rfl ?_
    refine GX.q (.bool true) ?_
    refine GX.m rfl ?_
    iterate 3 refine GX.skip rfl rfl ?_
    refine GX.q (.bool true) ?_
    refine GX.done ?_
    refine WK.condT rfl ?_
    refine WK.sr mixed ?_
    iterate 2 refine GX.m rfl ?_
    refine GX.done ?_
    refine WK.ret ?_
    subst hR
    exact RetQ.frw [] (.inr rfl) rfl rfl rfl (.tup (.cons .nil .refl))
  ·rw [hb2]; try simp only [hb2, bb] at hR
   iterate 3 refine GX.skip rfl rfl ?_
   refine GX.q (.bool true) ?_
   refine GX.m rfl ?_
   iterate 4 refine GX.skip rfl rfl ?_
   refine GX.q (.bool true) ?_
   refine GX.m rfl ?_
   iterate 4 refine GX.skip rfl rfl ?_
   refine GX.q (.bool true) ?_
   refine GX.m rfl ?_
   iterate 3 refine GX.skip rfl rfl ?_
   refine GX.q (.bool true) ?_
   refine GX.m rfl ?_
   iterate 3 refine GX.skip rfl rfl ?_
   refine GX.q (.bool true) ?_
   refine GX.m rfl ?_
   iterate 3 refine GX.skip rfl rfl ?_
   refine GX.q (.bool true) ?_
   refine GX.done ?_
   refine WK.condT rfl ?_
   refine WK.sr mixed ?_
   iterate 2 refine GX.m rfl ?_
   refine GX.done ?_
   refine WK.ret ?_
   subst hR
   exact RetQ.frw [] (.inr rfl) rfl rfl rfl (.tup (.cons .nil .refl))

theorem f53_ok (x0 : TLsp) (level1 : Int) (hp0 : x0.Things.length ≤ 100) (R : Bool) (hR : F53_crossroadsref23_mayLsp x0 level1 = R) : FnOk Try.prog 53 [.agg (TLsp.c x0), .int .i64 level1] [] 0 (.bool R) [] 0 := by
 refine FnOk.wk i53 rfl rfl ?_
 unfold F53_crossroadsref23_mayLsp at hR
 change WK _ _ _ [ac53] _ ⟨[(0, .agg (TLsp.c x0)), (1, .int .i64 level1)], [], 0⟩
 unfold ac53
 refine WK.sr mixed ?_
 refine GX.step (v' := .ptr 0 0) (heap' := [(0, .box (TLsp.c x0))]) (next' := 1) rfl rfl rfl rfl rfl rfl rfl ?_
 refine GX.m rfl ?_
 refine GX.done ?_
 refine WK.sr mixed ?_
 refine GX.q (.agg (TLsp.c x0)) ?_
 generalize hc9 : F68_crossroadsref22_PutLsp x0 = c9 at hR
 obtain ⟨c9a, c9b⟩ := c9; try dsimp only at hR
 refine GX.callp (r := .tup [.ro 1 (c9a.map c_u8), .int .i64 c9b]) rfl rfl rfl (f68_ok x0 (by omega) _ hc9) rfl rfl ?_
 refine GX.m rfl ?_
 refine GX.q (.ro 1 (c9a.map c_u8)) ?_
 refine GX.q (.int .i64 c9b) ?_
 iterate 2 refine GX.m rfl ?_
 refine GX.done ?_
 refine WK.sr mixed ?_
 refine GX.m rfl ?_
 refine GX.q (.bool (decide (c9b = 0))) ?_
 refine GX.m rfl ?_
 rcases bool_two (decide (c9b = 0)) with hb1 | hb1
 ·rw [hb1]; try simp only [hb1, bb] at hR
  iterate 4 refine GX.skip rfl rfl ?_
  refine GX.q (.bool false) ?_
  refine GX.m rfl ?_
  refine GX.done ?_
  refine WK.ret ?_
  subst hR
  exact RetQ.fr [] (.inr rfl) rfl rfl rfl rfl
 ·rw [hb1]; try simp only [hb1, bb] at hR
  refine GX.q (.ptr 0 0) ?_
  refine GX.q (.int .i64 x0.Level) ?_
  refine GX.m rfl ?_
  iterate 2 refine GX.q (.bool (decide (x0.Level = level1))) ?_
  refine GX.m rfl ?_
  refine GX.done ?_
  refine WK.ret ?_
  subst hR
  exact RetQ.fr [] (.inr rfl) rfl rfl rfl rfl

theorem f17_ok (b0 : TBase) (low1 : Int) (high2 : Int) (hp0 : SmB b0) (R : (List TEntry)) (hR : F17_link_List b0 low1 high2 = R) : FnOk Try.prog 17 [.agg (TBase.c b0), .int .u64 low1, .int .u64 high2] [] 0 (.ro 4 (R.map TEntry.c)) [] 0 := by
 refine FnOk.wk i17 rfl rfl ?_
 unfold F17_link_List at hR
 change WK _ _ _ [ac17] _ ⟨[(0, .agg (TBase.c b0)), (1, .int .u64 low1), (2, .int .u64 high2)], [], 0⟩
 unfold ac17
 refine WK.sr mixed ?_
 refine GX.step (v' := .ptr 0 0) (heap' := [(0, .box (TBase.c b0))]) (next' := 1) rfl rfl rfl rfl rfl rfl rfl ?_
 refine GX.m rfl ?_
 refine GX.done ?_
 refine WK.sr mixed ?_
 refine GX.m rfl ?_
 refine GX.done ?_
 refine WK.seq ?_
 refine WK.sr mixed ?_
 refine GX.q (.ptr 0 2) ?_
 refine GX.q (.ro 7 (b0.L.map TLsp.c)) ?_
 refine GX.pure (v' := .int .i64 (b0.L.length : Int)) rfl rfl rfl rfl (len_map _ _) ?_
 refine GX.m rfl ?_
 refine GX.done ?_
 refine WK.adopt (t := 7) (sz := 4) (ty := 25) (heap' := [(0, .box (TBase.c b0)), (1, .row 4 25 (([] : List TEntry).map TEntry.c))]) rfl (by decide) (by simp) rfl ?_
 refine WK.len (t := 11) rfl (by simp) (fun hlen_11 => ?_)
 rw [List.length_map] at hlen_11
 generalize hZ_11 : F17_link_List_l1 low1 high2 ([] : List TEntry) b0.L = Z_11 at hR
 refine WK.forK (fun k s => ∃ (i13 : Nat) (out7 : List TEntry), i13 ≤ b0.L.length ∧ k = b0.L.length - i13 ∧ out7.length ≤ i13 + 0 ∧ F17_link_List_l1 low1 high2 out7 (b0.L.drop i13) = Z_11 ∧ s = ⟨[(1, .int .u64 low1), (2, .int .u64 high2), (7, .own 0 4 0 out7.length), (11, .ro 7 (b0.L.map TLsp.c)), (12, .int .i64 (b0.L.length : Int)), (13, .int .i64 (i13 : Int))], [(0, .row 4 25 (out7.map TEntry.c))], 1⟩) b0.L.length ⟨⟨[(1, .int .u64 low1), (2, .int .u64 high2), (7, .own 0 4 0 ([] : List TEntry).length), (11, .ro 7 (b0.L.map TLsp.c)), (12, .int .i64 (b0.L.length : Int)), (13, .int .i64 (0 : Int))], [(0, .row 4 25 (([] : List TEntry).map TEntry.c))], 1⟩, Conv.keep [1] [] [1, 2, 7, 11, 12, 13] rfl rfl (viewE_cons rfl rfl (viewE_cons rfl rfl (viewE_cons rfl rfl (viewE_cons rfl rfl (viewE_cons rfl rfl (viewE_cons rfl rfl viewE_nil)))))) rfl rfl, 0, ([] : List TEntry), (by omega), rfl, (by ((try simp only [List.length_append, List.length_cons, List.length_nil, decide_eq_true_eq, decide_eq_false_iff_not] at *) <;> first | omega | (rw [wrap64_of (by omega) (by omega)]; omega))), hZ_11, rfl⟩ ?_
 rintro _ _ ⟨i13, out7, hi_11, rfl, hinv11_out7, hL_11, rfl⟩ again_11 out_11 Q_11 hagain_11 hout_11 hQ_11
 refine WK.sr mixed ?_
 refine GX.q (.bool (decide ((i13 : Int) < (b0.L.length : Int)))) ?_
 refine GX.done ?_
 refine WK.seq ?_
 rcases bool_two (decide ((i13 : Int) < (b0.L.length : Int))) with hb12 | hb12
 ·rw [hb12]
  rw [drop_end hb12, F17_link_List_l1] at hL_11
  refine WK.condF rfl ?_
  refine WK.exit ?_
  refine QF.exit (hout_11 _ ?_)
  subst hL_11
  try dsimp only [cond_true, cond_false] at hR
  refine WK.sr mixed ?_
  iterate 2 refine GX.m rfl ?_
  refine GX.done ?_
  refine WK.ret ?_
  subst hR
  exact RetQ.fr [0] (.inr rfl) rfl rfl (viewGo_cons (view_rowT rfl rfl) viewGo_nil) rfl
 ·rw [hb12]
  obtain ⟨x13, hx11, hd11, hlt11⟩ := drop_more hb12
  rw [hd11, F17_link_List_l1] at hL_11
  refine WK.condT rfl ?_
  refine WK.skip ?_
  refine WK.seq ?_
  refine WK.blockK (fun _ hK13 => ?_)
  refine WK.sr mixed ?_
  refine GX.idxT (c := TLsp.c) (x := x13) rfl rfl rfl (Int.natCast_nonneg _) hx11 ?_
  refine GX.q (.agg (TLsp.c x13)) ?_
  refine GX.step (v' := .ptr 1 0) (heap' := [(0, .row 4 25 (out7.map TEntry.c)), (1, .box [.int .i64 0, .int .i64 0, .int .u64 0, .int .u32 0, .int .i64 0, .int .i64 0, .nils])]) (next' := 2) rfl rfl rfl rfl rfl rfl rfl ?_
  refine GX.step0 (heap' := [(0, .row 4 25 (out7.map TEntry.c)), (1, .box (TLsp.c x13))]) (next' := 2) rfl rfl rfl rfl rfl ?_
  refine GX.done ?_
  refine WK.sr mixed ?_
  refine GX.q (.ptr 1 2) ?_
  refine GX.q (.int .u64 x13.ID) ?_
  refine GX.m rfl ?_
  refine GX.q (.bool (decide (low1 ≤ x13.ID))) ?_
  refine GX.m rfl ?_
  rcases bool_two (decide (low1 ≤ x13.ID)) with hb14 | hb14
  ·rw [hb14]; try simp only [hb14, bb] at hL_11
   iterate 4 refine GX.skip rfl rfl ?_
   refine GX.q (.bool false) ?_
   refine GX.done ?_
   refine WK.condF rfl ?_
   refine WK.skip ?_
   refine WK.nil (QF.normal (hK13 _ ?_))
   refine WK.regx mixed ?_
   refine GX.pure (v' := .int .i64 ((i13 + 1 : Nat) : Int)) rfl rfl rfl rfl (congrArg (PVal.int .i64) (wrap_up hlt11 hlen_11)) ?_
   refine GX.m rfl ?_
   refine GX.done ?_
   refine WK.nil (QF.normal ?_)
   exact hagain_11 _ (b0.L.length - (i13 + 1)) ⟨[(1, .int .u64 low1), (2, .int .u64 high2), (7, .own 0 4 0 out7.length), (11, .ro 7 (b0.L.map TLsp.c)), (12, .int .i64 (b0.L.length : Int)), (13, .int .i64 ((i13 + 1) : Int))], [(0, .row 4 25 (out7.map TEntry.c))], 1⟩ (by omega) (Conv.keep [0] [] [1, 2, 7, 11, 12, 13] rfl rfl (viewE_cons rfl rfl (viewE_cons rfl rfl (viewE_cons rfl rfl (viewE_cons rfl rfl (viewE_cons rfl rfl (viewE_cons rfl rfl viewE_nil)))))) rfl rfl) ⟨i13 + 1, out7, (by omega), rfl, (by omega), hL_11, rfl⟩
  ·rw [hb14]; try simp only [hb14, bb] at hL_11
   refine GX.q (.ptr 1 2) ?_
   refine GX.q (.int .u64 x13.ID) ?_
   refine GX.m rfl ?_
   iterate 2 refine GX.q (.bool (decide (x13.ID ≤ high2))) ?_
   refine GX.done ?_
   rcases bool_two (decide (x13.ID ≤ high2)) with hb15 | hb15
   ·rw [hb15]; try simp only [hb15, bb] at hL_11
    refine WK.condF rfl ?_
    refine WK.skip ?_
    refine WK.nil (QF.normal (hK13 _ ?_))
    refine WK.regx mixed ?_
    refine GX.pure (v' := .int .i64 ((i13 + 1 : Nat) : Int)) rfl rfl rfl rfl (congrArg (PVal.int .i64) (wrap_up hlt11 hlen_11)) ?_
    refine GX.m rfl ?_
    refine GX.done ?_
    refine WK.nil (QF.normal ?_)
    exact hagain_11 _ (b0.L.length - (i13 + 1)) ⟨[(1, .int .u64 low1), (2, .int .u64 high2), (7, .own 0 4 0 out7.length), (11, .ro 7 (b0.L.map TLsp.c)), (12, .int .i64 (b0.L.length : Int)), (13, .int .i64 ((i13 + 1) : Int))], [(0, .row 4 25 (out7.map TEntry.c))], 1⟩ (by omega) (Conv.keep [0] [] [1, 2, 7, 11, 12, 13] rfl rfl (viewE_cons rfl rfl (viewE_cons rfl rfl (viewE_cons rfl rfl (viewE_cons rfl rfl (viewE_cons rfl rfl (viewE_cons rfl rfl viewE_nil)))))) rfl rfl) ⟨i13 + 1, out7, (by omega), rfl, (by omega), hL_11, rfl⟩
   ·rw [hb15]; try simp only [hb15, bb] at hL_11
    refine WK.condT rfl ?_
    refine WK.regx mixed ?_
    refine GX.m rfl ?_
    refine GX.q (.agg (TLsp.c x13)) ?_
    generalize hc29 : F14_link_Entry x13 = c29 at hL_11
    try dsimp only at hL_11
    refine GX.callp (r := .agg [.int .i64 c29.Life, .int .u64 c29.ID, .int .u32 c29.Seq, .int .i64 c29.Sum]) rfl rfl rfl (f14_ok x13 _ hc29) rfl rfl ?_
    refine GX.step (v' := .own 2 4 0 (([c29] : List TEntry)).length) (heap' := [(0, .row 4 25 (out7.map TEntry.c)), (1, .box (TLsp.c x13)), (2, .row 4 25 (([c29] : List TEntry).map TEntry.c))]) (next' := 3) rfl rfl rfl rfl rfl rfl rfl ?_
    refine GX.appT (c := TEntry.c) (L := out7) (X := ([c29] : List TEntry)) (heap' := [(1, .box (TLsp.c x13)), (2, .row 4 25 (([c29] : List TEntry).map TEntry.c)), (3, .row 4 25 ((out7 ++ ([c29] : List TEntry)).map TEntry.c))]) (next' := 4) rfl rfl rfl rfl (elems_own rfl) (by (have h1 := SmB.nL (by assumption); (try simp only [List.length_append, List.length_cons, List.length_nil, decide_eq_true_eq, decide_eq_false_iff_not] at *); omega)) (by ((try simp only [List.length_append, List.length_cons, List.length_nil, List.length_map, decide_eq_true_eq, decide_eq_false_iff_not] at *) <;> omega)) rfl rfl rfl rfl ?_
    refine GX.m rfl ?_
    refine GX.done ?_
    refine WK.nil (QF.normal (hK13 _ ?_))
    refine WK.regx mixed ?_
    refine GX.pure (v' := .int .i64 ((i13 + 1 : Nat) : Int)) rfl rfl rfl rfl (congrArg (PVal.int .i64) (wrap_up hlt11 hlen_11)) ?_
    refine GX.m rfl ?_
    refine GX.done ?_
    refine WK.nil (QF.normal ?_)
    exact hagain_11 _ (b0.L.length - (i13 + 1)) ⟨[(1, .int .u64 low1), (2, .int .u64 high2), (7, .own 0 4 0 (out7 ++ ([c29] : List TEntry)).length), (11, .ro 7 (b0.L.map TLsp.c)), (12, .int .i64 (b0.L.length : Int)), (13, .int .i64 ((i13 + 1) : Int))], [(0, .row 4 25 ((out7 ++ ([c29] : List TEntry)).map TEntry.c))], 1⟩ (by omega) (Conv.keep [3] [] [1, 2, 7, 11, 12, 13] rfl rfl (viewE_cons rfl rfl (viewE_cons rfl rfl (viewE_cons rfl rfl (viewE_cons rfl rfl (viewE_cons rfl rfl (viewE_cons rfl rfl viewE_nil)))))) rfl rfl) ⟨i13 + 1, (out7 ++ ([c29] : List TEntry)), (by omega), rfl, (by ((try simp only [List.length_append, List.length_cons, List.length_nil, decide_eq_true_eq, decide_eq_false_iff_not] at *) <;> first | omega | (rw [wrap64_of (by omega) (by omega)]; omega))), hL_11, rfl⟩

theorem f47_ok (b0 : TBase) (id1 : Int) (hp0 : SmB b0) (R : TLsp × Bool) (hR : F47_link_Find b0 id1 = R) : FnOk Try.prog 47 [.agg (TBase.c b0), .int .u64 id1] [] 0 (.tup [.agg (TLsp.c R.1), .bool R.2]) [] 0 := by
 refine FnOk.wk i47 rfl rfl ?_
 unfold F47_link_Find at hR
 change WK _ _ _ [ac47] _ ⟨[(0, .agg (TBase.c b0)), (1, .int .u64 id1)], [], 0⟩
 unfold ac47
 refine WK.sr mixed ?_
 refine GX.step (v' := .ptr 0 0) (heap' := [(0, .box (TBase.c b0))]) (next' := 1) rfl rfl rfl rfl rfl rfl rfl ?_
 refine GX.step (v' := .ptr 1 0) (heap' := [(0, .box (TBase.c b0)), (1, .box [.int .i64 0, .int .i64 0, .int .u64 0, .int .u32 0, .int .i64 0, .int .i64 0, .nils])]) (next' := 2) rfl rfl rfl rfl rfl rfl rfl ?_
 refine GX.m rfl ?_
 refine GX.done ?_
 refine WK.sr mixed ?_
 refine GX.q (.agg (TBase.c b0)) ?_
 refine GX.m rfl ?_
 generalize hc11 : F49_link_Base_at b0 id1 = c11 at hR
 have hpo0_c11 := post_at b0 id1 (by omega); rw [hc11] at hpo0_c11
 have hpo1_c11 := post_at2 b0 id1 (by omega); rw [hc11] at hpo1_c11
 obtain ⟨c11a, c11b⟩ := c11; try dsimp only at hR; try dsimp only at hpo0_c11; try dsimp only at hpo1_c11
 refine GX.callp (r := .tup [.int .i64 c11a, .bool c11b]) rfl rfl rfl (f49_ok b0 id1 _ hc11) rfl rfl ?_
 refine GX.m rfl ?_
 refine GX.q (.int .i64 c11a) ?_
 refine GX.q (.bool c11b) ?_
 iterate 2 refine GX.m rfl ?_
 refine GX.done ?_
 refine WK.seq ?_
 refine WK.sr mixed ?_
 refine GX.m rfl ?_
 refine GX.q (.bool (!c11b)) ?_
 refine GX.done ?_
 rcases bool_two (c11b) with hb1 | hb1
 ·rw [hb1]; try simp only [hb1, bb] at hR
  refine WK.condT rfl ?_
  refine WK.sr mixed ?_
  refine GX.q (.agg [.int .i64 0, .int .i64 0, .int .u64 0, .int .u32 0, .int .i64 0, .int .i64 0, .nils]) ?_
  refine GX.step0 (heap' := [(0, .box (TBase.c b0)), (1, .box [.int .i64 0, .int .i64 0, .int .u64 0, .int .u32 0, .int .i64 0, .int .i64 0, .nils])]) (next' := 2) rfl rfl rfl rfl rfl ?_
  refine GX.m rfl ?_
  refine GX.done ?_
  refine WK.ret ?_
  subst hR
  exact RetQ.frw [] (.inr rfl) rfl rfl rfl (.tup (.cons (.agg (.cons .refl (.cons .refl (.cons .refl (.cons .refl (.cons .refl (.cons .refl (.cons .nil .refl)))))))) .refl))
 ·rw [hb1]; try simp only [hb1, bb] at hR
  try have hq_hpo1_c11 := hpo1_c11 hb1
  refine WK.condF rfl ?_
  refine WK.skip ?_
  refine WK.sr mixed ?_
  refine GX.q (.ptr 0 2) ?_
  refine GX.q (.ro 7 (b0.L.map TLsp.c)) ?_
  refine GX.m rfl ?_
  refine GX.idxT (c := TLsp.c) (x := (b0.L.getD c11a.toNat default)) rfl rfl rfl (by omega) (getD_at (by omega)) ?_
  refine GX.q (.agg [.int .i64 ((b0.L.getD c11a.toNat default).Level), .int .i64 ((b0.L.getD c11a.toNat default).Life), .int .u64 ((b0.L.getD c11a.toNat default).ID), .int .u32 ((b0.L.getD c11a.toNat default).Seq), .int .i64 ((b0.L.getD c11a.toNat default).Sum), .int .i64 ((b0.L.getD c11a.toNat default).Bits), .ro 2 (((b0.L.getD c11a.toNat default).Things).map TThing.c)]) ?_
  refine GX.step0 (heap' := [(0, .box (TBase.c b0)), (1, .box [.int .i64 ((b0.L.getD c11a.toNat default).Level), .int .i64 ((b0.L.getD c11a.toNat default).Life), .int .u64 ((b0.L.getD c11a.toNat default).ID), .int .u32 ((b0.L.getD c11a.toNat default).Seq), .int .i64 ((b0.L.getD c11a.toNat default).Sum), .int .i64 ((b0.L.getD c11a.toNat default).Bits), .ro 2 (((b0.L.getD c11a.toNat default).Things).map TThing.c)])]) (next' := 2) rfl rfl rfl rfl rfl ?_
  refine GX.m rfl ?_
  refine GX.done ?_
  refine WK.ret ?_
  subst hR
  exact RetQ.fr [] (.inr rfl) rfl rfl rfl rfl

end Go.Proofs.Ytpcpclbdajebjaa.Abs
