/- The functions walked: each computes its Lean function (printed by this work's own program gen.py). -/
import Derived.Test.YtmfggjebbhdejaaSo
set_option linter.unusedVariables false
set_option linter.unusedSimpArgs false
set_option maxRecDepth 10000
set_option maxHeartbeats 4000000
namespace Go.Proofs.Ytmfggjebbhdejaa.Abs
open Go

theorem f6_ok (l0 : List TCand) (R : Bool) (hR : F6_crossroadslaw25_short l0 = R) : FnOk Try.prog 6 [.ro 10 (l0.map TCand.c)] [] 0 (.bool R) [] 0 := by
 refine FnOk.wk i6 rfl rfl ?_
 unfold F6_crossroadslaw25_short at hR
 change WK _ _ _ [ac6] _ ⟨[(0, .ro 10 (l0.map TCand.c))], [], 0⟩
 unfold ac6
 refine WK.sr mixed ?_
 refine GX.m rfl ?_
 refine GX.done ?_
 refine WK.seq ?_
 refine WK.sr mixed ?_
 refine GX.m rfl ?_
 refine GX.done ?_
 refine WK.len (t := 0) rfl (by simp) (fun hlen_1 => ?_)
 rw [List.length_map] at hlen_1
 generalize hZ_1 : F6_crossroadslaw25_short_l1 l0 = Z_1 at hR
 refine WK.forK (fun k s => ∃ (i3 : Nat), i3 ≤ l0.length ∧ k = l0.length - i3 ∧ F6_crossroadslaw25_short_l1 (l0.drop i3) = Z_1 ∧ s = ⟨[(0, .ro 10 (l0.map TCand.c)), (3, .int .i64 (i3 : Int))], [], 0⟩) l0.length ⟨⟨[(0, .ro 10 (l0.map TCand.c)), (3, .int .i64 (0 : Int))], [], 0⟩, Conv.keep [] [] [0, 3] rfl rfl (viewE_cons rfl rfl (viewE_cons rfl rfl viewE_nil)) rfl rfl, 0, (by omega), rfl, hZ_1, rfl⟩ ?_
 rintro _ _ ⟨i3, hi_1, rfl, hL_1, rfl⟩ again_1 out_1 Q_1 hagain_1 hout_1 hQ_1
 refine WK.seq ?_
 refine WK.sr mixed ?_
 iterate 2 refine GX.m rfl ?_
 refine GX.pure (v' := .int .i64 (l0.length : Int)) rfl rfl rfl rfl (len_map _ _) ?_
 refine GX.q (.bool (decide ((i3 : Int) < (l0.length : Int)))) ?_
 refine GX.done ?_
 rcases bool_two (decide ((i3 : Int) < (l0.length : Int))) with hb2 | hb2
 ·rw [hb2]
  rw [drop_end hb2, F6_crossroadslaw25_short_l1] at hL_1
  refine WK.condF rfl ?_
  refine WK.exit ?_
  refine QF.exit (hout_1 _ ?_)
  subst hL_1
  try dsimp only [cond_true, cond_false] at hR
  refine WK.sr mixed ?_
  refine GX.m rfl ?_
  refine GX.done ?_
  refine WK.ret ?_
  subst hR
  exact RetQ.fr [] (.inr rfl) rfl rfl rfl rfl
 ·rw [hb2]
  obtain ⟨x3, hx1, hd1, hlt1⟩ := drop_more hb2
  rw [hd1, F6_crossroadslaw25_short_l1] at hL_1
  refine WK.condT rfl ?_
  refine WK.skip ?_
  refine WK.seq ?_
  refine WK.blockK (fun _ hK3 => ?_)
  refine WK.sr mixed ?_
  iterate 2 refine GX.m rfl ?_
  refine GX.idxT (c := TCand.c) (x := x3) rfl rfl rfl (Int.natCast_nonneg _) hx1 ?_
  refine GX.q (.rptr [.ro 2 (x3.Hops.map THop.c)]) ?_
  refine GX.q (.ro 2 (x3.Hops.map THop.c)) ?_
  refine GX.pure (v' := .int .i64 (x3.Hops.length : Int)) rfl rfl rfl rfl (len_map _ _) ?_
  refine GX.q (.bool (decide (20 < (x3.Hops.length : Int)))) ?_
  refine GX.done ?_
  rcases bool_two (decide (20 < (x3.Hops.length : Int))) with hb4 | hb4
  ·rw [hb4]; try simp only [hb4, bb] at hL_1
   refine WK.condF rfl ?_
   refine WK.skip ?_
   refine WK.nil (QF.normal (hK3 _ ?_))
   refine WK.regx mixed ?_
   refine GX.m rfl ?_
   refine GX.pure (v' := .int .i64 ((i3 + 1 : Nat) : Int)) rfl rfl rfl rfl (congrArg (PVal.int .i64) (wrap_up hlt1 hlen_1)) ?_
   refine GX.m rfl ?_
   refine GX.done ?_
   refine WK.nil (QF.normal ?_)
   exact hagain_1 _ (l0.length - (i3 + 1)) ⟨[(0, .ro 10 (l0.map TCand.c)), (3, .int .i64 ((i3 + 1) : Int))], [], 0⟩ (by omega) (Conv.keep [] [] [0, 3] rfl rfl (viewE_cons rfl rfl (viewE_cons rfl rfl viewE_nil)) rfl rfl) ⟨i3 + 1, (by omega), rfl, hL_1, rfl⟩
  ·rw [hb4]; try simp only [hb4, bb] at hL_1
   refine WK.condT rfl ?_
   refine WK.sr mixed ?_
   refine GX.m rfl ?_
   refine GX.done ?_
   refine WK.ret ?_
   refine QF.ret ?_
   refine QF.ret (hQ_1 _ _ ?_)
   subst hL_1
   subst hR
   exact RetQ.fr [] (.inr rfl) rfl rfl rfl rfl

theorem f48_ok (vals0 : List Int) (R : Int) (hR : F48_cmp_Or vals0 = R) : FnOk Try.prog 48 [.ro 1 (vals0.map c_i64)] [] 0 (.int .i64 R) [] 0 := by
 refine FnOk.wk i48 rfl rfl ?_
 unfold F48_cmp_Or at hR
 change WK _ _ _ [ac48] _ ⟨[(0, .ro 1 (vals0.map c_i64))], [], 0⟩
 unfold ac48
 refine WK.sr mixed ?_
 refine GX.m rfl ?_
 refine GX.done ?_
 refine WK.sr mixed ?_
 refine GX.m rfl ?_
 refine GX.done ?_
 refine WK.seq ?_
 refine WK.sr mixed ?_
 refine GX.m rfl ?_
 refine GX.pure (v' := .int .i64 (vals0.length : Int)) rfl rfl rfl rfl (len_map _ _) ?_
 refine GX.m rfl ?_
 refine GX.done ?_
 refine WK.len (t := 0) rfl (by simp) (fun hlen_1 => ?_)
 rw [List.length_map] at hlen_1
 generalize hZ_1 : F48_cmp_Or_l1 vals0 = Z_1 at hR
 refine WK.forK (fun k s => ∃ (i8 : Nat), i8 ≤ vals0.length ∧ k = vals0.length - i8 ∧ F48_cmp_Or_l1 (vals0.drop i8) = Z_1 ∧ s = ⟨[(3, .int .i64 0), (6, .ro 1 (vals0.map c_i64)), (7, .int .i64 (vals0.length : Int)), (8, .int .i64 (i8 : Int))], [], 0⟩) vals0.length ⟨⟨[(3, .int .i64 0), (6, .ro 1 (vals0.map c_i64)), (7, .int .i64 (vals0.length : Int)), (8, .int .i64 (0 : Int))], [], 0⟩, Conv.keep [] [] [3, 6, 7, 8] rfl rfl (viewE_cons rfl rfl (viewE_cons rfl rfl (viewE_cons rfl rfl (viewE_cons rfl rfl viewE_nil)))) rfl rfl, 0, (by omega), rfl, hZ_1, rfl⟩ ?_
 rintro _ _ ⟨i8, hi_1, rfl, hL_1, rfl⟩ again_1 out_1 Q_1 hagain_1 hout_1 hQ_1
 refine WK.sr mixed ?_
 refine GX.q (.bool (decide ((i8 : Int) < (vals0.length : Int)))) ?_
 refine GX.done ?_
 refine WK.seq ?_
 rcases bool_two (decide ((i8 : Int) < (vals0.length : Int))) with hb2 | hb2
 ·rw [hb2]
  rw [drop_end hb2, F48_cmp_Or_l1] at hL_1
  refine WK.condF rfl ?_
  refine WK.exit ?_
  refine QF.exit (hout_1 _ ?_)
  subst hL_1
  try dsimp only [cond_true, cond_false] at hR
  refine WK.sr mixed ?_
  iterate 2 refine GX.m rfl ?_
  refine GX.done ?_
  refine WK.ret ?_
  subst hR
  exact RetQ.fr [] (.inr rfl) rfl rfl rfl rfl
 ·rw [hb2]
  obtain ⟨x8, hx1, hd1, hlt1⟩ := drop_more hb2
  rw [hd1, F48_cmp_Or_l1] at hL_1
  refine WK.condT rfl ?_
  refine WK.skip ?_
  refine WK.seq ?_
  refine WK.blockK (fun _ hK3 => ?_)
  refine WK.sr mixed ?_
  refine GX.idxT (c := c_i64) (x := x8) rfl rfl rfl (Int.natCast_nonneg _) hx1 ?_
  refine GX.q (.int .i64 x8) ?_
  refine GX.m rfl ?_
  refine GX.done ?_
  refine WK.sr mixed ?_
  iterate 2 refine GX.m rfl ?_
  refine GX.q (.bool (!decide (x8 = 0))) ?_
  refine GX.done ?_
  rcases bool_two (decide (x8 = 0)) with hb4 | hb4
  ·rw [hb4]; try simp only [hb4, bb] at hL_1
   refine WK.condT rfl ?_
   refine WK.sr mixed ?_
   iterate 2 refine GX.m rfl ?_
   refine GX.done ?_
   refine WK.ret ?_
   refine QF.ret ?_
   refine QF.ret (hQ_1 _ _ ?_)
   subst hL_1
   subst hR
   exact RetQ.fr [] (.inr rfl) rfl rfl rfl rfl
  ·rw [hb4]; try simp only [hb4, bb] at hL_1
   refine WK.condF rfl ?_
   refine WK.skip ?_
   refine WK.nil (QF.normal (hK3 _ ?_))
   refine WK.regx mixed ?_
   refine GX.pure (v' := .int .i64 ((i8 + 1 : Nat) : Int)) rfl rfl rfl rfl (congrArg (PVal.int .i64) (wrap_up hlt1 hlen_1)) ?_
   refine GX.m rfl ?_
   refine GX.done ?_
   refine WK.nil (QF.normal ?_)
   exact hagain_1 _ (vals0.length - (i8 + 1)) ⟨[(3, .int .i64 0), (6, .ro 1 (vals0.map c_i64)), (7, .int .i64 (vals0.length : Int)), (8, .int .i64 ((i8 + 1) : Int))], [], 0⟩ (by omega) (Conv.keep [] [] [3, 6, 7, 8] rfl rfl (viewE_cons rfl rfl (viewE_cons rfl rfl (viewE_cons rfl rfl (viewE_cons rfl rfl viewE_nil)))) rfl rfl) ⟨i8 + 1, (by omega), rfl, hL_1, rfl⟩

theorem f57_ok (x0 : Int) (R : Bool) (hR : F57_cmp_isNaN x0 = R) : FnOk Try.prog 57 [.int .i64 x0] [] 0 (.bool R) [] 0 := by
 refine FnOk.wk i57 rfl rfl ?_
 unfold F57_cmp_isNaN at hR
 change WK _ _ _ [ac57] _ ⟨[(0, .int .i64 x0)], [], 0⟩
 unfold ac57
 refine WK.sr mixed ?_
 refine GX.m rfl ?_
 refine GX.done ?_
 refine WK.sr mixed ?_
 iterate 2 refine GX.m rfl ?_
 refine GX.q (.bool (!decide (x0 = x0))) ?_
 refine GX.m rfl ?_
 refine GX.done ?_
 refine WK.ret ?_
 subst hR
 exact RetQ.fr [] (.inr rfl) rfl rfl rfl rfl

theorem f50_ok (x0 : Int) (y1 : Int) (R : Int) (hR : F50_cmp_Compare x0 y1 = R) : FnOk Try.prog 50 [.int .i64 x0, .int .i64 y1] [] 0 (.int .i64 R) [] 0 := by
 refine FnOk.wk i50 rfl rfl ?_
 unfold F50_cmp_Compare at hR
 change WK _ _ _ [ac50] _ ⟨[(0, .int .i64 x0), (1, .int .i64 y1)], [], 0⟩
 unfold ac50
 refine WK.sr mixed ?_
 refine GX.m rfl ?_
 refine GX.done ?_
 refine WK.sr mixed ?_
 refine GX.m rfl ?_
 generalize hc8 : F57_cmp_isNaN x0 = c8 at hR
 try dsimp only at hR
 refine GX.callp (r := .bool c8) rfl rfl rfl (f57_ok x0 _ hc8) rfl rfl ?_
 refine GX.m rfl ?_
 refine GX.done ?_
 refine WK.sr mixed ?_
 refine GX.m rfl ?_
 generalize hc10 : F57_cmp_isNaN y1 = c10 at hR
 try dsimp only at hR
 refine GX.callp (r := .bool c10) rfl rfl rfl (f57_ok y1 _ hc10) rfl rfl ?_
 refine GX.m rfl ?_
 refine GX.done ?_
 refine WK.seq ?_
 refine WK.sr mixed ?_
 refine GX.m rfl ?_
 refine GX.done ?_
 rcases bool_two (c8) with hb1 | hb1
 ·rw [hb1]; try simp only [hb1, bb] at hR
  refine WK.condF rfl ?_
  refine WK.skip ?_
  refine WK.seq ?_
  refine WK.sr mixed ?_
  refine GX.m rfl ?_
  refine GX.done ?_
  rcases bool_two (c10) with hb2 | hb2
  ·rw [hb2]; try simp only [hb2, bb] at hR
   refine WK.condF rfl ?_
   refine WK.skip ?_
   refine WK.seq ?_
   refine WK.sr mixed ?_
   iterate 2 refine GX.m rfl ?_
   refine GX.q (.bool (decide (x0 < y1))) ?_
   refine GX.done ?_
   rcases bool_two (decide (x0 < y1)) with hb3 | hb3
   ·rw [hb3]; try simp only [hb3, bb] at hR
    refine WK.condF rfl ?_
    refine WK.skip ?_
    refine WK.seq ?_
    refine WK.sr mixed ?_
    iterate 2 refine GX.m rfl ?_
    refine GX.q (.bool (decide (y1 < x0))) ?_
    refine GX.done ?_
    rcases bool_two (decide (y1 < x0)) with hb4 | hb4
    ·rw [hb4]; try simp only [hb4, bb] at hR
     refine WK.condF rfl ?_
     refine WK.skip ?_
     refine WK.sr mixed ?_
     refine GX.m rfl ?_
     refine GX.done ?_
     refine WK.ret ?_
     subst hR
     exact RetQ.fr [] (.inr rfl) rfl rfl rfl rfl
    ·rw [hb4]; try simp only [hb4, bb] at hR
     refine WK.condT rfl ?_
     refine WK.sr mixed ?_
     refine GX.m rfl ?_
     refine GX.done ?_
     refine WK.ret ?_
     subst hR
     exact RetQ.fr [] (.inr rfl) rfl rfl rfl rfl
   ·rw [hb3]; try simp only [hb3, bb] at hR
    refine WK.condT rfl ?_
    refine WK.sr mixed ?_
    refine GX.m rfl ?_
    refine GX.done ?_
    refine WK.ret ?_
    subst hR
    exact RetQ.fr [] (.inr rfl) rfl rfl rfl rfl
  ·rw [hb2]; try simp only [hb2, bb] at hR
   refine WK.condT rfl ?_
   refine WK.sr mixed ?_
   refine GX.m rfl ?_
   refine GX.done ?_
   refine WK.ret ?_
   subst hR
   exact RetQ.fr [] (.inr rfl) rfl rfl rfl rfl
 ·rw [hb1]; try simp only [hb1, bb] at hR
  refine WK.condT rfl ?_
  refine WK.seq ?_
  refine WK.sr mixed ?_
  refine GX.m rfl ?_
  refine GX.done ?_
  rcases bool_two (c10) with hb5 | hb5
  ·rw [hb5]; try simp only [hb5, bb] at hR
   refine WK.condF rfl ?_
   refine WK.skip ?_
   refine WK.sr mixed ?_
   refine GX.m rfl ?_
   refine GX.done ?_
   refine WK.ret ?_
   subst hR
   exact RetQ.fr [] (.inr rfl) rfl rfl rfl rfl
  ·rw [hb5]; try simp only [hb5, bb] at hR
   refine WK.condT rfl ?_
   refine WK.sr mixed ?_
   refine GX.m rfl ?_
   refine GX.done ?_
   refine WK.ret ?_
   subst hR
   exact RetQ.fr [] (.inr rfl) rfl rfl rfl rfl

theorem f51_ok (c0 : TCand) (R : Int) (hR : F51_rib_Cand_leaked c0 = R) : FnOk Try.prog 51 [.agg (TCand.c c0)] [] 0 (.int .i64 R) [] 0 := by
 refine FnOk.wk i51 rfl rfl ?_
 unfold F51_rib_Cand_leaked at hR
 change WK _ _ _ [ac51] _ ⟨[(0, .agg (TCand.c c0))], [], 0⟩
 unfold ac51
 refine WK.sr mixed ?_
 refine GX.step (v' := .ptr 0 0) (heap' := [(0, .box (TCand.c c0))]) (next' := 1) rfl rfl rfl rfl rfl rfl rfl ?_
 refine GX.m rfl ?_
 refine GX.done ?_
 refine WK.seq ?_
 refine WK.sr mixed ?_
 refine GX.q (.ptr 0 7) ?_
 refine GX.q (.bool c0.Leaked) ?_
 refine GX.done ?_
 rcases bool_two (c0.Leaked) with hb1 | hb1
 ·rw [hb1]; try simp only [hb1, bb] at hR
  refine WK.condF rfl ?_
  refine WK.skip ?_
  refine WK.sr mixed ?_
  refine GX.m rfl ?_
  refine GX.done ?_
  refine WK.ret ?_
  subst hR
  exact RetQ.fr [] (.inr rfl) rfl rfl rfl rfl
 ·rw [hb1]; try simp only [hb1, bb] at hR
  refine WK.condT rfl ?_
  refine WK.sr mixed ?_
  refine GX.m rfl ?_
  refine GX.done ?_
  refine WK.ret ?_
  subst hR
  exact RetQ.fr [] (.inr rfl) rfl rfl rfl rfl

theorem f34_ok (a0 : TCand) (b1 : TCand) (R : Int) (hR : F34_rib_byRank a0 b1 = R) : FnOk Try.prog 34 [.agg (TCand.c a0), .agg (TCand.c b1)] [] 0 (.int .i64 R) [] 0 := by
 refine FnOk.wk i34 rfl rfl ?_
 unfold F34_rib_byRank at hR
 change WK _ _ _ [ac34] _ ⟨[(0, .agg (TCand.c a0)), (1, .agg (TCand.c b1))], [], 0⟩
 unfold ac34
 refine WK.sr mixed ?_
 refine GX.step (v' := .ptr 0 0) (heap' := [(0, .box (TCand.c a0))]) (next' := 1) rfl rfl rfl rfl rfl rfl rfl ?_
 refine GX.step (v' := .ptr 1 0) (heap' := [(0, .box (TCand.c a0)), (1, .box (TCand.c b1))]) (next' := 2) rfl rfl rfl rfl rfl rfl rfl ?_
 refine GX.m rfl ?_
 refine GX.done ?_
 refine WK.seq ?_
 refine WK.drawn mixed ?_
 refine RD.q (.ptr 0 4) ?_
 refine RD.q (.int .i64 a0.Dist) ?_
 refine RD.q (.ptr 1 4) ?_
 refine RD.q (.int .i64 b1.Dist) ?_
 generalize hc9 : F50_cmp_Compare a0.Dist b1.Dist = c9 at hR
 try dsimp only at hR
 refine RD.callp (r := .int .i64 c9) rfl rfl rfl (f50_ok a0.Dist b1.Dist _ hc9) rfl rfl ?_
 refine RD.q (.agg (TCand.c a0)) ?_
 generalize hc11 : F51_rib_Cand_leaked a0 = c11 at hR
 try dsimp only at hR
 refine RD.callp (r := .int .i64 c11) rfl rfl rfl (f51_ok a0 _ hc11) rfl rfl ?_
 refine RD.q (.agg (TCand.c b1)) ?_
 generalize hc13 : F51_rib_Cand_leaked b1 = c13 at hR
 try dsimp only at hR
 refine RD.callp (r := .int .i64 c13) rfl rfl rfl (f51_ok b1 _ hc13) rfl rfl ?_
 refine RD.q (.int .i64 (IntKind.i64.wrap (c11 - c13))) ?_
 refine RD.q (.ptr 0 2) ?_
 refine RD.q (.int .i64 a0.Proto) ?_
 refine RD.q (.ptr 1 2) ?_
 refine RD.q (.int .i64 b1.Proto) ?_
 generalize hc19 : F50_cmp_Compare a0.Proto b1.Proto = c19 at hR
 try dsimp only at hR
 refine RD.callp (r := .int .i64 c19) rfl rfl rfl (f50_ok a0.Proto b1.Proto _ hc19) rfl rfl ?_
 refine RD.q (.ptr 0 5) ?_
 refine RD.q (.int .i64 a0.Metric) ?_
 refine RD.q (.ptr 1 5) ?_
 refine RD.q (.int .i64 b1.Metric) ?_
 generalize hc24 : F50_cmp_Compare a0.Metric b1.Metric = c24 at hR
 try dsimp only at hR
 refine RD.callp (r := .int .i64 c24) rfl rfl rfl (f50_ok a0.Metric b1.Metric _ hc24) rfl rfl ?_
 refine RD.q (.ptr 0 3) ?_
 refine RD.q (.int .i64 a0.Inst) ?_
 refine RD.q (.ptr 1 3) ?_
 refine RD.q (.int .i64 b1.Inst) ?_
 generalize hc29 : F50_cmp_Compare a0.Inst b1.Inst = c29 at hR
 try dsimp only at hR
 refine RD.callp (r := .int .i64 c29) rfl rfl rfl (f50_ok a0.Inst b1.Inst _ hc29) rfl rfl ?_
 refine RD.q (.ptr 0 8) ?_
 refine RD.q (.int .i64 a0.From) ?_
 refine RD.q (.ptr 1 8) ?_
 refine RD.q (.int .i64 b1.From) ?_
 generalize hc34 : F50_cmp_Compare a0.From b1.From = c34 at hR
 try dsimp only at hR
 refine RD.callp (r := .int .i64 c34) rfl rfl rfl (f50_ok a0.From b1.From _ hc34) rfl rfl ?_
 refine RD.step (v' := .own 2 1 0 (([c9, IntKind.i64.wrap (c11 - c13), c19, c24, c29, c34] : List Int)).length) (heap' := [(0, .box (TCand.c a0)), (1, .box (TCand.c b1)), (2, .row 1 3 (([c9, IntKind.i64.wrap (c11 - c13), c19, c24, c29, c34] : List Int).map c_i64))]) (next' := 3) rfl rfl rfl rfl rfl rfl rfl ?_
 generalize hc36 : F48_cmp_Or ([c9, IntKind.i64.wrap (c11 - c13), c19, c24, c29, c34] : List Int) = c36 at hR
 try dsimp only at hR
 refine RD.callbp (r := .int .i64 c36) [2] rfl rfl rfl (viewGo_cons (view_rowT rfl rfl) viewGo_nil) (f48_ok ([c9, IntKind.i64.wrap (c11 - c13), c19, c24, c29, c34] : List Int) _ hc36) rfl rfl ?_
 refine RD.m rfl ?_
 refine RD.doneB [0, 1, 0, 4, 15, 0, 63, 0, 255, 511, 0, 1024, 0, 4096, 15871, 0, 32768, 0, 131072, 523775, 0, 1048576, 0, 4194304, 16776703, 0, 33554432, 0, 134217728, 536870399, 1073741823, 2147483647, 4294967295] (by kernel_rfl) (by kernel_rfl) (by kernel_rfl) ?_
 refine WK.ret ?_
 subst hR
 exact RetQ.fr [] (.inr rfl) rfl rfl rfl rfl

theorem f16_ok (a0 : TCand) (b1 : TCand) (R : Bool) (hR : F16_rib_Better a0 b1 = R) : FnOk Try.prog 16 [.agg (TCand.c a0), .agg (TCand.c b1)] [] 0 (.bool R) [] 0 := by
 refine FnOk.wk i16 rfl rfl ?_
 unfold F16_rib_Better at hR
 change WK _ _ _ [ac16] _ ⟨[(0, .agg (TCand.c a0)), (1, .agg (TCand.c b1))], [], 0⟩
 unfold ac16
 refine WK.sr mixed ?_
 refine GX.step (v' := .ptr 0 0) (heap' := [(0, .box (TCand.c a0))]) (next' := 1) rfl rfl rfl rfl rfl rfl rfl ?_
 refine GX.step (v' := .ptr 1 0) (heap' := [(0, .box (TCand.c a0)), (1, .box (TCand.c b1))]) (next' := 2) rfl rfl rfl rfl rfl rfl rfl ?_
 refine GX.m rfl ?_
 refine GX.done ?_
 refine WK.sr mixed ?_
 refine GX.q (.agg (TCand.c a0)) ?_
 refine GX.q (.agg (TCand.c b1)) ?_
 generalize hc7 : F34_rib_byRank a0 b1 = c7 at hR
 try dsimp only at hR
 refine GX.callp (r := .int .i64 c7) rfl rfl rfl (f34_ok a0 b1 _ hc7) rfl rfl ?_
 refine GX.q (.bool (decide (c7 < 0))) ?_
 refine GX.m rfl ?_
 refine GX.done ?_
 refine WK.ret ?_
 subst hR
 exact RetQ.fr [] (.inr rfl) rfl rfl rfl rfl

theorem f46_ok (n0 : Int) (R : Bool) (hR : F46_addr_isLong n0 = R) : FnOk Try.prog 46 [.int .i64 n0] [] 0 (.bool R) [] 0 := by
 refine FnOk.wk i46 rfl rfl ?_
 unfold F46_addr_isLong at hR
 change WK _ _ _ [ac46] _ ⟨[(0, .int .i64 n0)], [], 0⟩
 unfold ac46
 refine WK.sr mixed ?_
 refine GX.m rfl ?_
 refine GX.done ?_
 refine WK.sr mixed ?_
 refine GX.m rfl ?_
 refine GX.q (.bool (decide (0 ≤ n0))) ?_
 refine GX.m rfl ?_
 rcases bool_two (decide (0 ≤ n0)) with hb1 | hb1
 ·rw [hb1]; try simp only [hb1, bb] at hR
  iterate 2 refine GX.skip rfl rfl ?_
  refine GX.q (.bool false) ?_
  refine GX.m rfl ?_
  refine GX.done ?_
  refine WK.ret ?_
  subst hR
  exact RetQ.fr [] (.inr rfl) rfl rfl rfl rfl
 ·rw [hb1]; try simp only [hb1, bb] at hR
  refine GX.m rfl ?_
  iterate 2 refine GX.q (.bool (decide (n0 ≤ 32))) ?_
  refine GX.m rfl ?_
  refine GX.done ?_
  refine WK.ret ?_
  subst hR
  exact RetQ.fr [] (.inr rfl) rfl rfl rfl rfl

theorem f47_ok (n0 : Int) (R : Int) (hR : F47_addr_Mask n0 = R) : FnOk Try.prog 47 [.int .i64 n0] [] 0 (.int .u32 R) [] 0 := by
 refine FnOk.wk i47 rfl rfl ?_
 unfold F47_addr_Mask at hR
 change WK _ _ _ [ac47] _ ⟨[(0, .int .i64 n0)], [], 0⟩
 unfold ac47
 refine WK.sr mixed ?_
 refine GX.m rfl ?_
 refine GX.done ?_
 refine WK.sr mixed ?_
 refine GX.m rfl ?_
 refine GX.q (.int .i64 (max_ n0 0)) ?_
 refine GX.q (.int .i64 (min_ (max_ n0 0) 32)) ?_
 refine GX.m rfl ?_
 refine GX.done ?_
 refine WK.sr mixed ?_
 refine GX.m rfl ?_
 refine GX.q (.int .i64 (IntKind.i64.wrap (32 - (min_ (max_ n0 0) 32)))) ?_
 refine GX.shl rfl rfl rfl (by ((try simp only [decide_eq_true_eq, decide_eq_false_iff_not, Bool.not_eq_true, Bool.not_eq_false] at *); first | omega | (rw [wrap64_of (by omega) (by omega)]; omega) | (unfold min_ max_; (repeat' split) <;> first | omega | (rw [wrap64_of (by omega) (by omega)]; omega)))) ?_
 refine GX.q (.int .u32 (IntKind.u32.wrap (shl_ .u64 4294967295 (IntKind.i64.wrap (32 - (min_ (max_ n0 0) 32)))))) ?_
 refine GX.m rfl ?_
 refine GX.done ?_
 refine WK.ret ?_
 subst hR
 exact RetQ.fr [] (.inr rfl) rfl rfl rfl rfl

theorem f27_ok (p0 : TPrefix) (R : Bool) (hR : F27_addr_May p0 = R) : FnOk Try.prog 27 [.agg (TPrefix.c p0)] [] 0 (.bool R) [] 0 := by
 refine FnOk.wk i27 rfl rfl ?_
 unfold F27_addr_May at hR
 change WK _ _ _ [ac27] _ ⟨[(0, .agg (TPrefix.c p0))], [], 0⟩
 unfold ac27
 refine WK.sr mixed ?_
 refine GX.step (v' := .ptr 0 0) (heap' := [(0, .box (TPrefix.c p0))]) (next' := 1) rfl rfl rfl rfl rfl rfl rfl ?_
 refine GX.m rfl ?_
 refine GX.done ?_
 refine WK.seq ?_
 refine WK.drawn mixed ?_
 refine RD.q (.ptr 0 1) ?_
 refine RD.q (.int .i64 p0.N) ?_
 generalize hc5 : F46_addr_isLong p0.N = c5 at hR
 try dsimp only at hR
 refine RD.callp (r := .bool c5) rfl rfl rfl (f46_ok p0.N _ hc5) rfl rfl ?_
 refine RD.m rfl ?_
 rcases bool_two (c5) with hb1 | hb1
 ·rw [hb1]; try simp only [hb1, bb] at hR
  iterate 7 refine RD.skip rfl rfl ?_
  refine RD.q (.bool false) ?_
  refine RD.m rfl ?_
  refine RD.done rfl ?_
  refine WK.ret ?_
  subst hR
  exact RetQ.fr [] (.inr rfl) rfl rfl rfl rfl
 ·rw [hb1]; try simp only [hb1, bb] at hR
  refine RD.q (.ptr 0 0) ?_
  refine RD.q (.int .u32 p0.A) ?_
  refine RD.q (.ptr 0 1) ?_
  refine RD.q (.int .i64 p0.N) ?_
  generalize hc11 : F47_addr_Mask p0.N = c11 at hR
  try dsimp only at hR
  refine RD.callp (r := .int .u32 c11) rfl rfl rfl (f47_ok p0.N _ hc11) rfl rfl ?_
  refine RD.q (.int .u32 (bit_andNot .u32 p0.A c11)) ?_
  iterate 2 refine RD.q (.bool (decide (bit_andNot .u32 p0.A c11 = 0))) ?_
  refine RD.m rfl ?_
  refine RD.done rfl ?_
  refine WK.ret ?_
  subst hR
  exact RetQ.fr [] (.inr rfl) rfl rfl rfl rfl

theorem f37_ok (p0 : TPrefix) (a1 : Int) (R : Bool) (hR : F37_addr_Has p0 a1 = R) : FnOk Try.prog 37 [.agg (TPrefix.c p0), .int .u32 a1] [] 0 (.bool R) [] 0 := by
 refine FnOk.wk i37 rfl rfl ?_
 unfold F37_addr_Has at hR
 change WK _ _ _ [ac37] _ ⟨[(0, .agg (TPrefix.c p0)), (1, .int .u32 a1)], [], 0⟩
 unfold ac37
 refine WK.sr mixed ?_
 refine GX.step (v' := .ptr 0 0) (heap' := [(0, .box (TPrefix.c p0))]) (next' := 1) rfl rfl rfl rfl rfl rfl rfl ?_
 refine GX.m rfl ?_
 refine GX.done ?_
 refine WK.seq ?_
 refine WK.drawn mixed ?_
 refine RD.q (.agg (TPrefix.c p0)) ?_
 generalize hc6 : F27_addr_May p0 = c6 at hR
 try dsimp only at hR
 refine RD.callp (r := .bool c6) rfl rfl rfl (f27_ok p0 _ hc6) rfl rfl ?_
 refine RD.m rfl ?_
 rcases bool_two (c6) with hb1 | hb1
 ·rw [hb1]; try simp only [hb1, bb] at hR
  iterate 8 refine RD.skip rfl rfl ?_
  refine RD.q (.bool false) ?_
  refine RD.m rfl ?_
  refine RD.done rfl ?_
  refine WK.ret ?_
  subst hR
  exact RetQ.fr [] (.inr rfl) rfl rfl rfl rfl
 ·rw [hb1]; try simp only [hb1, bb] at hR
  refine RD.m rfl ?_
  refine RD.q (.ptr 0 1) ?_
  refine RD.q (.int .i64 p0.N) ?_
  generalize hc11 : F47_addr_Mask p0.N = c11 at hR
  try dsimp only at hR
  refine RD.callp (r := .int .u32 c11) rfl rfl rfl (f47_ok p0.N _ hc11) rfl rfl ?_
  refine RD.q (.int .u32 (bit_and .u32 a1 c11)) ?_
  refine RD.q (.ptr 0 0) ?_
  refine RD.q (.int .u32 p0.A) ?_
  iterate 2 refine RD.q (.bool (decide (bit_and .u32 a1 c11 = p0.A))) ?_
  refine RD.m rfl ?_
  refine RD.done rfl ?_
  refine WK.ret ?_
  subst hR
  exact RetQ.fr [] (.inr rfl) rfl rfl rfl rfl

theorem f38_ok (t0 : TTable) (h1 : THop) (R : THop × Bool) (hR : F38_rib_Resolve t0 h1 = some R) : FnOk Try.prog 38 [.agg (TTable.c t0), .agg (THop.c h1)] [] 0 (.tup [.agg (THop.c R.1), .bool R.2]) [] 0 := by
 refine FnOk.wk i38 rfl rfl ?_
 unfold F38_rib_Resolve at hR
 try dsimp only at hR
 change WK _ _ _ [ac38] _ ⟨[(0, .agg (TTable.c t0)), (1, .agg (THop.c h1))], [], 0⟩
 unfold ac38
 refine WK.sr mixed ?_
 refine GX.step (v' := .ptr 0 0) (heap' := [(0, .box (TTable.c t0))]) (next' := 1) rfl rfl rfl rfl rfl rfl rfl ?_
 refine GX.step (v' := .ptr 1 0) (heap' := [(0, .box (TTable.c t0)), (1, .box (THop.c h1))]) (next' := 2) rfl rfl rfl rfl rfl rfl rfl ?_
 refine GX.step (v' := .ptr 2 0) (heap' := [(0, .box (TTable.c t0)), (1, .box (THop.c h1)), (2, .box [.int .i64 0, .int .u32 0])]) (next' := 3) rfl rfl rfl rfl rfl rfl rfl ?_
 refine GX.m rfl ?_
 refine GX.done ?_
 refine WK.seq ?_
 refine WK.sr mixed ?_
 refine GX.q (.ptr 1 1) ?_
 refine GX.q (.int .u32 h1.Gate) ?_
 refine GX.q (.bool (decide (h1.Gate = 0))) ?_
 refine GX.done ?_
 rcases bool_two (decide (h1.Gate = 0)) with hb1 | hb1
 ·rw [hb1]; first | replace hR := cond_f hb1 hR | (try simp only [hb1, bb] at hR)
  refine WK.condF rfl ?_
  refine WK.skip ?_
  refine WK.sr mixed ?_
  refine GX.m rfl ?_
  refine GX.done ?_
  refine WK.seq ?_
  refine WK.sr mixed ?_
  refine GX.q (.ptr 0 0) ?_
  refine GX.q (.ro 10 (t0.L.map TCand.c)) ?_
  refine GX.pure (v' := .int .i64 (t0.L.length : Int)) rfl rfl rfl rfl (len_map _ _) ?_
  refine GX.m rfl ?_
  refine GX.done ?_
  refine WK.len (t := 14) rfl (by simp) (fun hlen_8 => ?_)
  rw [List.length_map] at hlen_8
  generalize hZ_8 : F38_rib_Resolve_l1 t0 h1 (-1) 0 t0.L = Z_8 at hR
  refine WK.forK (fun k s => ∃ (i16 : Nat) (at6 : Int), i16 ≤ t0.L.length ∧ k = t0.L.length - i16 ∧ F38_rib_Resolve_l1 t0 h1 at6 i16 (t0.L.drop i16) = Z_8 ∧ s = ⟨[(2, .ptr 0 0), (3, .ptr 1 0), (4, .ptr 2 0), (6, .int .i64 at6), (14, .ro 10 (t0.L.map TCand.c)), (15, .int .i64 (t0.L.length : Int)), (16, .int .i64 (i16 : Int))], [(0, .box (TTable.c t0)), (1, .box (THop.c h1)), (2, .box [.int .i64 0, .int .u32 0])], 3⟩) t0.L.length ⟨⟨[(2, .ptr 0 0), (3, .ptr 1 0), (4, .ptr 2 0), (6, .int .i64 (-1)), (14, .ro 10 (t0.L.map TCand.c)), (15, .int .i64 (t0.L.length : Int)), (16, .int .i64 (0 : Int))], [(0, .box (TTable.c t0)), (1, .box (THop.c h1)), (2, .box [.int .i64 0, .int .u32 0])], 3⟩, Conv.keep [0, 1, 2] [] [2, 3, 4, 6, 14, 15, 16] rfl rfl (viewE_cons rfl rfl (viewE_cons rfl rfl (viewE_cons rfl rfl (viewE_cons rfl rfl (viewE_cons rfl rfl (viewE_cons rfl rfl (viewE_cons rfl rfl viewE_nil))))))) rfl rfl, 0, (-1), (by omega), rfl, hZ_8, rfl⟩ ?_
  rintro _ _ ⟨i16, at6, hi_8, rfl, hL_8, rfl⟩ again_8 out_8 Q_8 hagain_8 hout_8 hQ_8
  refine WK.sr mixed ?_
  refine GX.q (.bool (decide ((i16 : Int) < (t0.L.length : Int)))) ?_
  refine GX.done ?_
  refine WK.seq ?_
  rcases bool_two (decide ((i16 : Int) < (t0.L.length : Int))) with hb9 | hb9
  ·rw [hb9]
   rw [drop_end hb9, F38_rib_Resolve_l1] at hL_8
   refine WK.condF rfl ?_
   refine WK.exit ?_
   refine QF.exit (hout_8 _ ?_)
   subst hL_8
   try dsimp only [cond_true, cond_false] at hR
   refine WK.seq ?_
   refine WK.sr mixed ?_
   refine GX.m rfl ?_
   refine GX.q (.bool (decide (at6 < 0))) ?_
   refine GX.done ?_
   rcases bool_two (decide (at6 < 0)) with hb10 | hb10
   ·rw [hb10]; first | replace hR := cond_f hb10 hR | (try simp only [hb10, bb] at hR)
    refine WK.condF rfl ?_
    refine WK.skip ?_
    refine WK.seq ?_
    refine WK.drawn mixed ?_
    refine RD.q (.ptr 0 0) ?_
    refine RD.q (.ro 10 (t0.L.map TCand.c)) ?_
    refine RD.m rfl ?_
    generalize hx910 : getI t0.L at6 = x910 at hR
    rcases x910 with _ | x910
    ·try dsimp only at hR
     cases hR
    try dsimp only at hR
    obtain ⟨hx9100, hx910j, hx910l, hx910⟩ := getI_some hx910
    refine RD.idxT (c := TCand.c) (x := x910) rfl rfl rfl hx9100 hx910 ?_
    refine RD.q (.rptr [.ro 2 (x910.Hops.map THop.c)]) ?_
    refine RD.q (.ro 2 (x910.Hops.map THop.c)) ?_
    generalize hx911 : getI x910.Hops 0 = x911 at hR
    rcases x911 with _ | x911
    ·try dsimp only at hR
     cases hR
    try dsimp only at hR
    obtain ⟨hx9110, hx911j, hx911l, hx911⟩ := getI_some hx911
    refine RD.idxT (c := THop.c) (x := x911) rfl rfl rfl hx9110 hx911 ?_
    refine RD.q (.rptr (THop.c x911)) ?_
    refine RD.q (.int .i64 x911.Iface) ?_
    refine RD.q (.ptr 1 1) ?_
    refine RD.q (.int .u32 h1.Gate) ?_
    refine RD.q (.agg [.int .i64 x911.Iface, .int .u32 h1.Gate]) ?_
    refine RD.step0 (heap' := [(0, .box (TTable.c t0)), (1, .box (THop.c h1)), (2, .box [.int .i64 x911.Iface, .int .u32 h1.Gate])]) (next' := 3) rfl rfl rfl rfl rfl ?_
    refine RD.m rfl ?_
    refine RD.done rfl ?_
    refine WK.ret ?_
    obtain rfl := Option.some.inj hR
    exact RetQ.fr [] (.inr rfl) rfl rfl rfl rfl
   ·rw [hb10]; first | replace hR := cond_t hb10 hR | (try simp only [hb10, bb] at hR)
    refine WK.condT rfl ?_
    refine WK.sr mixed ?_
    refine GX.q (.agg [.int .i64 0, .int .u32 0]) ?_
    refine GX.step0 (heap' := [(0, .box (TTable.c t0)), (1, .box (THop.c h1)), (2, .box [.int .i64 0, .int .u32 0])]) (next' := 3) rfl rfl rfl rfl rfl ?_
    refine GX.m rfl ?_
    refine GX.done ?_
    refine WK.ret ?_
    obtain rfl := Option.some.inj hR
    exact RetQ.fr [] (.inr rfl) rfl rfl rfl rfl
  ·rw [hb9]
   obtain ⟨x16, hx8, hd8, hlt8⟩ := drop_more hb9
   rw [hd8, F38_rib_Resolve_l1] at hL_8
   refine WK.condT rfl ?_
   refine WK.skip ?_
   refine WK.seq ?_
   refine WK.blockK (fun _ hK13 => ?_)
   refine WK.sr mixed ?_
   refine GX.m rfl ?_
   refine GX.idxT (c := TCand.c) (x := x16) rfl rfl rfl (Int.natCast_nonneg _) hx8 ?_
   refine GX.q (.agg (TCand.c x16)) ?_
   refine GX.step (v' := .ptr 3 0) (heap' := [(0, .box (TTable.c t0)), (1, .box (THop.c h1)), (2, .box [.int .i64 0, .int .u32 0]), (3, .box [.int .u32 0, .int .i64 0, .int .i64 0, .int .i64 0, .int .i64 0, .int .i64 0, .int .u32 0, .bool false, .int .i64 0, .nils])]) (next' := 4) rfl rfl rfl rfl rfl rfl rfl ?_
   refine GX.m rfl ?_
   refine GX.step0 (heap' := [(0, .box (TTable.c t0)), (1, .box (THop.c h1)), (2, .box [.int .i64 0, .int .u32 0]), (3, .box (TCand.c x16))]) (next' := 4) rfl rfl rfl rfl rfl ?_
   refine GX.done ?_
   refine WK.seq ?_
   refine WK.drawn mixed ?_
   refine RD.q (.ptr 3 2) ?_
   refine RD.q (.int .i64 x16.Proto) ?_
   refine RD.q (.bool (decide (x16.Proto = 0))) ?_
   refine RD.m rfl ?_
   rcases bool_two (decide (x16.Proto = 0)) with hb14 | hb14
   ·rw [hb14]; try simp only [hb14, bb] at hL_8
    iterate 3 refine RD.skip rfl rfl ?_
    refine RD.q (.bool false) ?_
    refine RD.m rfl ?_
    iterate 5 refine RD.skip rfl rfl ?_
    refine RD.q (.bool false) ?_
    refine RD.m rfl ?_
    iterate 15 refine RD.skip rfl rfl ?_
    refine RD.q (.bool false) ?_
    refine RD.doneB [0, 1, 3, 7, 15, 31, 63, 127, 255, 511, 1023, 511, 2559, 8191, 16383, 32767, 65535, 131071, 262143, 524287, 1048575, 2097151, 524287, 4718591, 524287, 29884415, 63438847, 130547711, 264765439, 536870911, 1073741823, 2147483647] (by kernel_rfl) (by kernel_rfl) (by kernel_rfl) ?_
    refine WK.condF rfl ?_
    refine WK.skip ?_
    refine WK.nil (QF.normal (hK13 _ ?_))
    refine WK.regx mixed ?_
    refine GX.pure (v' := .int .i64 ((i16 + 1 : Nat) : Int)) rfl rfl rfl rfl (congrArg (PVal.int .i64) (wrap_up hlt8 hlen_8)) ?_
    refine GX.m rfl ?_
    refine GX.done ?_
    refine WK.nil (QF.normal ?_)
    exact hagain_8 _ (t0.L.length - (i16 + 1)) ⟨[(2, .ptr 0 0), (3, .ptr 1 0), (4, .ptr 2 0), (6, .int .i64 at6), (14, .ro 10 (t0.L.map TCand.c)), (15, .int .i64 (t0.L.length : Int)), (16, .int .i64 ((i16 + 1) : Int))], [(0, .box (TTable.c t0)), (1, .box (THop.c h1)), (2, .box [.int .i64 0, .int .u32 0])], 3⟩ (by omega) (Conv.keep [0, 1, 2] [] [2, 3, 4, 6, 14, 15, 16] rfl rfl (viewE_cons rfl rfl (viewE_cons rfl rfl (viewE_cons rfl rfl (viewE_cons rfl rfl (viewE_cons rfl rfl (viewE_cons rfl rfl (viewE_cons rfl rfl viewE_nil))))))) rfl rfl) ⟨i16 + 1, at6, (by omega), rfl, hL_8, rfl⟩
   ·rw [hb14]; try simp only [hb14, bb] at hL_8
    refine RD.q (.ptr 3 7) ?_
    refine RD.q (.bool x16.Leaked) ?_
    iterate 2 refine RD.q (.bool (!x16.Leaked)) ?_
    refine RD.m rfl ?_
    rcases bool_two (x16.Leaked) with hb15 | hb15
    ·rw [hb15]; try simp only [hb15, bb] at hL_8
     refine RD.q (.ptr 3 0) ?_
     refine RD.q (.agg [.int .u32 x16.P.A, .int .i64 x16.P.N]) ?_
     refine RD.q (.ptr 1 1) ?_
     refine RD.q (.int .u32 h1.Gate) ?_
     generalize hc34 : F37_addr_Has x16.P h1.Gate = c34 at hL_8
     try dsimp only at hL_8
     refine RD.callp (r := .bool c34) rfl rfl rfl (f37_ok x16.P h1.Gate _ hc34) rfl rfl ?_
     refine RD.q (.bool c34) ?_
     refine RD.m rfl ?_
     rcases bool_two (c34) with hb16 | hb16
     ·rw [hb16]; try simp only [hb16, bb] at hL_8
      iterate 15 refine RD.skip rfl rfl ?_
      refine RD.q (.bool false) ?_
      refine RD.doneB [0, 1, 3, 7, 15, 31, 63, 127, 255, 511, 1023, 511, 2559, 8191, 16383, 32767, 65535, 131071, 262143, 524287, 1048575, 2097151, 524287, 4718591, 524287, 29884415, 63438847, 130547711, 264765439, 536870911, 1073741823, 2147483647] (by kernel_rfl) (by kernel_rfl) (by kernel_rfl) ?_
      refine WK.condF rfl ?_
      refine WK.skip ?_
      refine WK.nil (QF.normal (hK13 _ ?_))
      refine WK.regx mixed ?_
      refine GX.pure (v' := .int .i64 ((i16 + 1 : Nat) : Int)) rfl rfl rfl rfl (congrArg (PVal.int .i64) (wrap_up hlt8 hlen_8)) ?_
      refine GX.m rfl ?_
      refine GX.done ?_
      refine WK.nil (QF.normal ?_)
      exact hagain_8 _ (t0.L.length - (i16 + 1)) ⟨[(2, .ptr 0 0), (3, .ptr 1 0), (4, .ptr 2 0), (6, .int .i64 at6), (14, .ro 10 (t0.L.map TCand.c)), (15, .int .i64 (t0.L.length : Int)), (16, .int .i64 ((i16 + 1) : Int))], [(0, .box (TTable.c t0)), (1, .box (THop.c h1)), (2, .box [.int .i64 0, .int .u32 0])], 3⟩ (by omega) (Conv.keep [0, 1, 2] [] [2, 3, 4, 6, 14, 15, 16] rfl rfl (viewE_cons rfl rfl (viewE_cons rfl rfl (viewE_cons rfl rfl (viewE_cons rfl rfl (viewE_cons rfl rfl (viewE_cons rfl rfl (viewE_cons rfl rfl viewE_nil))))))) rfl rfl) ⟨i16 + 1, at6, (by omega), rfl, hL_8, rfl⟩
     ·rw [hb16]; try simp only [hb16, bb] at hL_8
      refine RD.m rfl ?_
      refine RD.q (.bool (decide (at6 < 0))) ?_
      refine RD.m rfl ?_
      rcases bool_two (decide (at6 < 0)) with hb17 | hb17
      ·rw [hb17]; try simp only [hb17, bb] at hL_8
       refine RD.q (.ptr 3 0) ?_
       refine RD.q (.ptr 3 1) ?_
       refine RD.q (.int .i64 x16.P.N) ?_
       refine RD.q (.ptr 0 0) ?_
       refine RD.q (.ro 10 (t0.L.map TCand.c)) ?_
       refine RD.m rfl ?_
       generalize hx917 : getI t0.L at6 = x917 at hL_8
       rcases x917 with _ | x917
       ·try dsimp only at hL_8
        subst hL_8
        try dsimp only at hR
        cases hR
       try dsimp only at hL_8
       obtain ⟨hx9170, hx917j, hx917l, hx917⟩ := getI_some hx917
       refine RD.idxT (c := TCand.c) (x := x917) rfl rfl rfl hx9170 hx917 ?_
       refine RD.q (.rptr (TCand.c x917)) ?_
       refine RD.q (.rptr [.int .i64 x917.P.N, .int .i64 x917.Proto, .int .i64 x917.Inst, .int .i64 x917.Dist, .int .i64 x917.Metric, .int .u32 x917.Tag, .bool x917.Leaked, .int .i64 x917.From, .ro 2 (x917.Hops.map THop.c)]) ?_
       refine RD.q (.int .i64 x917.P.N) ?_
       iterate 3 refine RD.q (.bool (decide (x917.P.N < x16.P.N))) ?_
       refine RD.doneB [0, 1, 3, 7, 15, 31, 63, 127, 255, 511, 1023, 511, 2559, 8191, 16383, 32767, 65535, 131071, 262143, 524287, 1048575, 2097151, 524287, 4718591, 524287, 29884415, 63438847, 130547711, 264765439, 536870911, 1073741823, 2147483647] (by kernel_rfl) (by kernel_rfl) (by kernel_rfl) ?_
       rcases bool_two (decide (x917.P.N < x16.P.N)) with hb19 | hb19
       ·rw [hb19]; try simp only [hb19, bb] at hL_8
        refine WK.condF rfl ?_
        refine WK.skip ?_
        refine WK.nil (QF.normal (hK13 _ ?_))
        refine WK.regx mixed ?_
        refine GX.pure (v' := .int .i64 ((i16 + 1 : Nat) : Int)) rfl rfl rfl rfl (congrArg (PVal.int .i64) (wrap_up hlt8 hlen_8)) ?_
        refine GX.m rfl ?_
        refine GX.done ?_
        refine WK.nil (QF.normal ?_)
        exact hagain_8 _ (t0.L.length - (i16 + 1)) ⟨[(2, .ptr 0 0), (3, .ptr 1 0), (4, .ptr 2 0), (6, .int .i64 at6), (14, .ro 10 (t0.L.map TCand.c)), (15, .int .i64 (t0.L.length : Int)), (16, .int .i64 ((i16 + 1) : Int))], [(0, .box (TTable.c t0)), (1, .box (THop.c h1)), (2, .box [.int .i64 0, .int .u32 0])], 3⟩ (by omega) (Conv.keep [0, 1, 2] [] [2, 3, 4, 6, 14, 15, 16] rfl rfl (viewE_cons rfl rfl (viewE_cons rfl rfl (viewE_cons rfl rfl (viewE_cons rfl rfl (viewE_cons rfl rfl (viewE_cons rfl rfl (viewE_cons rfl rfl viewE_nil))))))) rfl rfl) ⟨i16 + 1, at6, (by omega), rfl, hL_8, rfl⟩
       ·rw [hb19]; try simp only [hb19, bb] at hL_8
        refine WK.condT rfl ?_
        refine WK.regx mixed ?_
        iterate 2 refine GX.m rfl ?_
        refine GX.done ?_
        refine WK.nil (QF.normal (hK13 _ ?_))
        refine WK.regx mixed ?_
        refine GX.pure (v' := .int .i64 ((i16 + 1 : Nat) : Int)) rfl rfl rfl rfl (congrArg (PVal.int .i64) (wrap_up hlt8 hlen_8)) ?_
        refine GX.m rfl ?_
        refine GX.done ?_
        refine WK.nil (QF.normal ?_)
        exact hagain_8 _ (t0.L.length - (i16 + 1)) ⟨[(2, .ptr 0 0), (3, .ptr 1 0), (4, .ptr 2 0), (6, .int .i64 (i16 : Int)), (14, .ro 10 (t0.L.map TCand.c)), (15, .int .i64 (t0.L.length : Int)), (16, .int .i64 ((i16 + 1) : Int))], [(0, .box (TTable.c t0)), (1, .box (THop.c h1)), (2, .box [.int .i64 0, .int .u32 0])], 3⟩ (by omega) (Conv.keep [0, 1, 2] [] [2, 3, 4, 6, 14, 15, 16] rfl rfl (viewE_cons rfl rfl (viewE_cons rfl rfl (viewE_cons rfl rfl (viewE_cons rfl rfl (viewE_cons rfl rfl (viewE_cons rfl rfl (viewE_cons rfl rfl viewE_nil))))))) rfl rfl) ⟨i16 + 1, (i16 : Int), (by omega), rfl, hL_8, rfl⟩
      ·rw [hb17]; try simp only [hb17, bb] at hL_8
       iterate 11 refine RD.skip rfl rfl ?_
       iterate 2 refine RD.q (.bool true) ?_
       refine RD.doneB [0, 1, 3, 7, 15, 31, 63, 127, 255, 511, 1023, 511, 2559, 8191, 16383, 32767, 65535, 131071, 262143, 524287, 1048575, 2097151, 524287, 4718591, 524287, 29884415, 63438847, 130547711, 264765439, 536870911, 1073741823, 2147483647] (by kernel_rfl) (by kernel_rfl) (by kernel_rfl) ?_
       refine WK.condT rfl ?_
       refine WK.regx mixed ?_
       iterate 2 refine GX.m rfl ?_
       refine GX.done ?_
       refine WK.nil (QF.normal (hK13 _ ?_))
       refine WK.regx mixed ?_
       refine GX.pure (v' := .int .i64 ((i16 + 1 : Nat) : Int)) rfl rfl rfl rfl (congrArg (PVal.int .i64) (wrap_up hlt8 hlen_8)) ?_
       refine GX.m rfl ?_
       refine GX.done ?_
       refine WK.nil (QF.normal ?_)
       exact hagain_8 _ (t0.L.length - (i16 + 1)) ⟨[(2, .ptr 0 0), (3, .ptr 1 0), (4, .ptr 2 0), (6, .int .i64 (i16 : Int)), (14, .ro 10 (t0.L.map TCand.c)), (15, .int .i64 (t0.L.length : Int)), (16, .int .i64 ((i16 + 1) : Int))], [(0, .box (TTable.c t0)), (1, .box (THop.c h1)), (2, .box [.int .i64 0, .int .u32 0])], 3⟩ (by omega) (Conv.keep [0, 1, 2] [] [2, 3, 4, 6, 14, 15, 16] rfl rfl (viewE_cons rfl rfl (viewE_cons rfl rfl (viewE_cons rfl rfl (viewE_cons rfl rfl (viewE_cons rfl rfl (viewE_cons rfl rfl (viewE_cons rfl rfl viewE_nil))))))) rfl rfl) ⟨i16 + 1, (i16 : Int), (by omega), rfl, hL_8, rfl⟩
    ·rw [hb15]; try simp only [hb15, bb] at hL_8
     iterate 5 refine RD.skip rfl rfl ?_
     refine RD.q (.bool false) ?_
     refine RD.m rfl ?_
     iterate 15 refine RD.skip rfl rfl ?_
     refine RD.q (.bool false) ?_
     refine RD.doneB [0, 1, 3, 7, 15, 31, 63, 127, 255, 511, 1023, 511, 2559, 8191, 16383, 32767, 65535, 131071, 262143, 524287, 1048575, 2097151, 524287, 4718591, 524287, 29884415, 63438847, 130547711, 264765439, 536870911, 1073741823, 2147483647] (by kernel_rfl) (by kernel_rfl) (by kernel_rfl) ?_
     refine WK.condF rfl ?_
     refine WK.skip ?_
     refine WK.nil (QF.normal (hK13 _ ?_))
     refine WK.regx mixed ?_
     refine GX.pure (v' := .int .i64 ((i16 + 1 : Nat) : Int)) rfl rfl rfl rfl (congrArg (PVal.int .i64) (wrap_up hlt8 hlen_8)) ?_
     refine GX.m rfl ?_
     refine GX.done ?_
     refine WK.nil (QF.normal ?_)
     exact hagain_8 _ (t0.L.length - (i16 + 1)) ⟨[(2, .ptr 0 0), (3, .ptr 1 0), (4, .ptr 2 0), (6, .int .i64 at6), (14, .ro 10 (t0.L.map TCand.c)), (15, .int .i64 (t0.L.length : Int)), (16, .int .i64 ((i16 + 1) : Int))], [(0, .box (TTable.c t0)), (1, .box (THop.c h1)), (2, .box [.int .i64 0, .int .u32 0])], 3⟩ (by omega) (Conv.keep [0, 1, 2] [] [2, 3, 4, 6, 14, 15, 16] rfl rfl (viewE_cons rfl rfl (viewE_cons rfl rfl (viewE_cons rfl rfl (viewE_cons rfl rfl (viewE_cons rfl rfl (viewE_cons rfl rfl (viewE_cons rfl rfl viewE_nil))))))) rfl rfl) ⟨i16 + 1, at6, (by omega), rfl, hL_8, rfl⟩
 ·rw [hb1]; first | replace hR := cond_t hb1 hR | (try simp only [hb1, bb] at hR)
  refine WK.condT rfl ?_
  refine WK.sr mixed ?_
  refine GX.q (.agg (THop.c h1)) ?_
  refine GX.step0 (heap' := [(0, .box (TTable.c t0)), (1, .box (THop.c h1)), (2, .box (THop.c h1))]) (next' := 3) rfl rfl rfl rfl rfl ?_
  refine GX.m rfl ?_
  refine GX.done ?_
  refine WK.ret ?_
  obtain rfl := Option.some.inj hR
  exact RetQ.fr [] (.inr rfl) rfl rfl rfl rfl

theorem f19_ok (t0 : TTable) (c1 : TCand) (R : TCand × Bool) (hR : F19_rib_Lives t0 c1 = some R) : FnOk Try.prog 19 [.agg (TTable.c t0), .agg (TCand.c c1)] [] 0 (.tup [.agg (TCand.c R.1), .bool R.2]) [] 0 := by
 refine FnOk.wk i19 rfl rfl ?_
 unfold F19_rib_Lives at hR
 try dsimp only at hR
 change WK _ _ _ [ac19] _ ⟨[(0, .agg (TTable.c t0)), (1, .agg (TCand.c c1))], [], 0⟩
 unfold ac19
 refine WK.sr mixed ?_
 refine GX.step (v' := .ptr 0 0) (heap' := [(0, .box (TTable.c t0))]) (next' := 1) rfl rfl rfl rfl rfl rfl rfl ?_
 refine GX.step (v' := .ptr 1 0) (heap' := [(0, .box (TTable.c t0)), (1, .box (TCand.c c1))]) (next' := 2) rfl rfl rfl rfl rfl rfl rfl ?_
 refine GX.step (v' := .ptr 2 0) (heap' := [(0, .box (TTable.c t0)), (1, .box (TCand.c c1)), (2, .box [.int .u32 0, .int .i64 0, .int .i64 0, .int .i64 0, .int .i64 0, .int .i64 0, .int .u32 0, .bool false, .int .i64 0, .nils])]) (next' := 3) rfl rfl rfl rfl rfl rfl rfl ?_
 refine GX.m rfl ?_
 refine GX.done ?_
 refine WK.seq ?_
 refine WK.sr mixed ?_
 refine GX.q (.ptr 1 2) ?_
 refine GX.q (.int .i64 c1.Proto) ?_
 refine GX.q (.bool (!decide (c1.Proto = 1))) ?_
 refine GX.m rfl ?_
 rcases bool_two (decide (c1.Proto = 1)) with hb1 | hb1
 ·rw [hb1]; first | replace hR := cond_f hb1 hR | (try simp only [hb1, bb] at hR)
  iterate 2 refine GX.skip rfl rfl ?_
  refine GX.q (.bool true) ?_
  refine GX.done ?_
  refine WK.condT rfl ?_
  refine WK.sr mixed ?_
  refine GX.q (.agg (TCand.c c1)) ?_
  refine GX.step0 (heap' := [(0, .box (TTable.c t0)), (1, .box (TCand.c c1)), (2, .box (TCand.c c1))]) (next' := 3) rfl rfl rfl rfl rfl ?_
  refine GX.m rfl ?_
  refine GX.done ?_
  refine WK.ret ?_
  obtain rfl := Option.some.inj hR
  exact RetQ.fr [] (.inr rfl) rfl rfl rfl rfl
 ·rw [hb1]; first | replace hR := cond_t hb1 hR | (try simp only [hb1, bb] at hR)
  refine GX.q (.ptr 1 7) ?_
  iterate 2 refine GX.q (.bool c1.Leaked) ?_
  refine GX.done ?_
  rcases bool_two (c1.Leaked) with hb2 | hb2
  ·rw [hb2]; first | replace hR := cond_f hb2 hR | (try simp only [hb2, bb] at hR)
   refine WK.condF rfl ?_
   refine WK.skip ?_
   refine WK.sr mixed ?_
   refine GX.m rfl ?_
   refine GX.done ?_
   refine WK.seq ?_
   refine WK.sr mixed ?_
   refine GX.q (.ptr 1 9) ?_
   refine GX.q (.ro 2 (c1.Hops.map THop.c)) ?_
   refine GX.pure (v' := .int .i64 (c1.Hops.length : Int)) rfl rfl rfl rfl (len_map _ _) ?_
   refine GX.m rfl ?_
   refine GX.done ?_
   refine WK.adopt (t := 6) (sz := 2) (ty := 61) (heap' := [(0, .box (TTable.c t0)), (1, .box (TCand.c c1)), (2, .box [.int .u32 0, .int .i64 0, .int .i64 0, .int .i64 0, .int .i64 0, .int .i64 0, .int .u32 0, .bool false, .int .i64 0, .nils]), (3, .row 2 61 (([] : List THop).map THop.c))]) rfl (by decide) (by simp) rfl ?_
   refine WK.len (t := 20) rfl (by simp) (fun hlen_11 => ?_)
   rw [List.length_map] at hlen_11
   generalize hZ_11 : F19_rib_Lives_l1 t0 ([] : List THop) c1.Hops = Z_11 at hR
   refine WK.forK (fun k s => ∃ (i22 : Nat) (hops6 : List THop), i22 ≤ c1.Hops.length ∧ k = c1.Hops.length - i22 ∧ F19_rib_Lives_l1 t0 hops6 (c1.Hops.drop i22) = Z_11 ∧ s = ⟨[(2, .ptr 0 0), (3, .ptr 1 0), (4, .ptr 2 0), (6, .own 3 2 0 hops6.length), (20, .ro 2 (c1.Hops.map THop.c)), (21, .int .i64 (c1.Hops.length : Int)), (22, .int .i64 (i22 : Int))], [(0, .box (TTable.c t0)), (1, .box (TCand.c c1)), (2, .box [.int .u32 0, .int .i64 0, .int .i64 0, .int .i64 0, .int .i64 0, .int .i64 0, .int .u32 0, .bool false, .int .i64 0, .nils]), (3, .row 2 61 (hops6.map THop.c))], 4⟩) c1.Hops.length ⟨⟨[(2, .ptr 0 0), (3, .ptr 1 0), (4, .ptr 2 0), (6, .own 3 2 0 ([] : List THop).length), (20, .ro 2 (c1.Hops.map THop.c)), (21, .int .i64 (c1.Hops.length : Int)), (22, .int .i64 (0 : Int))], [(0, .box (TTable.c t0)), (1, .box (TCand.c c1)), (2, .box [.int .u32 0, .int .i64 0, .int .i64 0, .int .i64 0, .int .i64 0, .int .i64 0, .int .u32 0, .bool false, .int .i64 0, .nils]), (3, .row 2 61 (([] : List THop).map THop.c))], 4⟩, Conv.keep [0, 1, 2, 3] [] [2, 3, 4, 6, 20, 21, 22] rfl rfl (viewE_cons rfl rfl (viewE_cons rfl rfl (viewE_cons rfl rfl (viewE_cons rfl rfl (viewE_cons rfl rfl (viewE_cons rfl rfl (viewE_cons rfl rfl viewE_nil))))))) rfl rfl, 0, ([] : List THop), (by omega), rfl, hZ_11, rfl⟩ ?_
   rintro _ _ ⟨i22, hops6, hi_11, rfl, hL_11, rfl⟩ again_11 out_11 Q_11 hagain_11 hout_11 hQ_11
   refine WK.sr mixed ?_
   refine GX.q (.bool (decide ((i22 : Int) < (c1.Hops.length : Int)))) ?_
   refine GX.done ?_
   refine WK.seq ?_
   rcases bool_two (decide ((i22 : Int) < (c1.Hops.length : Int))) with hb12 | hb12
   ·rw [hb12]
    rw [drop_end hb12, F19_rib_Lives_l1] at hL_11
    refine WK.condF rfl ?_
    refine WK.exit ?_
    refine QF.exit (hout_11 _ ?_)
    subst hL_11
    try dsimp only [cond_true, cond_false] at hR
    refine WK.seq ?_
    refine WK.sr mixed ?_
    refine GX.m rfl ?_
    refine GX.q (.int .i64 (hops6.length : Int)) ?_
    refine GX.q (.bool (decide ((hops6.length : Int) = 0))) ?_
    refine GX.done ?_
    rcases bool_two (decide ((hops6.length : Int) = 0)) with hb13 | hb13
    ·rw [hb13]; first | replace hR := cond_f hb13 hR | (try simp only [hb13, bb] at hR)
     refine WK.condF rfl ?_
     refine WK.skip ?_
     refine WK.sr mixed ?_
     refine GX.m rfl ?_
     refine GX.q (.ptr 1 9) ?_
     refine GX.step0 (heap' := [(0, .box (TTable.c t0)), (1, .box [.int .u32 c1.P.A, .int .i64 c1.P.N, .int .i64 c1.Proto, .int .i64 c1.Inst, .int .i64 c1.Dist, .int .i64 c1.Metric, .int .u32 c1.Tag, .bool c1.Leaked, .int .i64 c1.From, .own 3 2 0 hops6.length]), (2, .box [.int .u32 0, .int .i64 0, .int .i64 0, .int .i64 0, .int .i64 0, .int .i64 0, .int .u32 0, .bool false, .int .i64 0, .nils]), (3, .row 2 61 (hops6.map THop.c))]) (next' := 4) rfl rfl rfl rfl rfl ?_
     refine GX.done ?_
     refine WK.sr mixed ?_
     refine GX.q (.agg [.int .u32 c1.P.A, .int .i64 c1.P.N, .int .i64 c1.Proto, .int .i64 c1.Inst, .int .i64 c1.Dist, .int .i64 c1.Metric, .int .u32 c1.Tag, .bool c1.Leaked, .int .i64 c1.From, .own 3 2 0 hops6.length]) ?_
     refine GX.step0 (heap' := [(0, .box (TTable.c t0)), (1, .box [.int .u32 c1.P.A, .int .i64 c1.P.N, .int .i64 c1.Proto, .int .i64 c1.Inst, .int .i64 c1.Dist, .int .i64 c1.Metric, .int .u32 c1.Tag, .bool c1.Leaked, .int .i64 c1.From, .own 3 2 0 hops6.length]), (2, .box [.int .u32 c1.P.A, .int .i64 c1.P.N, .int .i64 c1.Proto, .int .i64 c1.Inst, .int .i64 c1.Dist, .int .i64 c1.Metric, .int .u32 c1.Tag, .bool c1.Leaked, .int .i64 c1.From, .own 3 2 0 hops6.length]), (3, .row 2 61 (hops6.map THop.c))]) (next' := 4) rfl rfl rfl rfl rfl ?_
     refine GX.m rfl ?_
     refine GX.done ?_
     refine WK.ret ?_
     obtain rfl := Option.some.inj hR
     exact RetQ.fr [3] (.inr rfl) rfl rfl (viewGo_cons (viewP_agg (viewGo_cons rfl (viewGo_cons rfl (viewGo_cons rfl (viewGo_cons rfl (viewGo_cons rfl (viewGo_cons rfl (viewGo_cons rfl (viewGo_cons rfl (viewGo_cons rfl (viewGo_cons (view_rowT rfl rfl) viewGo_nil))))))))))) (viewGo_cons rfl viewGo_nil)) rfl
    ·rw [hb13]; first | replace hR := cond_t hb13 hR | (try simp only [hb13, bb] at hR)
     refine WK.condT rfl ?_
     refine WK.sr mixed ?_
     refine GX.q (.agg [.int .u32 0, .int .i64 0, .int .i64 0, .int .i64 0, .int .i64 0, .int .i64 0, .int .u32 0, .bool false, .int .i64 0, .nils]) ?_
     refine GX.step0 (heap' := [(0, .box (TTable.c t0)), (1, .box (TCand.c c1)), (2, .box [.int .u32 0, .int .i64 0, .int .i64 0, .int .i64 0, .int .i64 0, .int .i64 0, .int .u32 0, .bool false, .int .i64 0, .nils]), (3, .row 2 61 (hops6.map THop.c))]) (next' := 4) rfl rfl rfl rfl rfl ?_
     refine GX.m rfl ?_
     refine GX.done ?_
     refine WK.ret ?_
     obtain rfl := Option.some.inj hR
     exact RetQ.frw [] (.inr rfl) rfl rfl rfl (.tup (.cons (.agg (.cons .refl (.cons .refl (.cons .refl (.cons .refl (.cons .refl (.cons .refl (.cons .refl (.cons .refl (.cons .refl (.cons .nil .refl))))))))))) .refl))
   ·rw [hb12]
    obtain ⟨x22, hx11, hd11, hlt11⟩ := drop_more hb12
    rw [hd11, F19_rib_Lives_l1] at hL_11
    refine WK.condT rfl ?_
    refine WK.skip ?_
    refine WK.seq ?_
    refine WK.blockK (fun _ hK14 => ?_)
    refine WK.sr mixed ?_
    refine GX.idxT (c := THop.c) (x := x22) rfl rfl rfl (Int.natCast_nonneg _) hx11 ?_
    refine GX.q (.agg (THop.c x22)) ?_
    refine GX.step (v' := .ptr 4 0) (heap' := [(0, .box (TTable.c t0)), (1, .box (TCand.c c1)), (2, .box [.int .u32 0, .int .i64 0, .int .i64 0, .int .i64 0, .int .i64 0, .int .i64 0, .int .u32 0, .bool false, .int .i64 0, .nils]), (3, .row 2 61 (hops6.map THop.c)), (4, .box [.int .i64 0, .int .u32 0])]) (next' := 5) rfl rfl rfl rfl rfl rfl rfl ?_
    refine GX.step0 (heap' := [(0, .box (TTable.c t0)), (1, .box (TCand.c c1)), (2, .box [.int .u32 0, .int .i64 0, .int .i64 0, .int .i64 0, .int .i64 0, .int .i64 0, .int .u32 0, .bool false, .int .i64 0, .nils]), (3, .row 2 61 (hops6.map THop.c)), (4, .box (THop.c x22))]) (next' := 5) rfl rfl rfl rfl rfl ?_
    refine GX.done ?_
    refine WK.sr mixed ?_
    refine GX.q (.agg (TTable.c t0)) ?_
    refine GX.q (.agg (THop.c x22)) ?_
    generalize hc29 : F38_rib_Resolve t0 x22 = c29 at hL_11
    rcases c29 with _ | c29
    ·try dsimp only at hL_11
     subst hL_11
     try dsimp only at hR
     cases hR
    try dsimp only at hL_11
    obtain ⟨c29a, c29b⟩ := c29; try dsimp only at hL_11
    refine GX.callp (r := .tup [.agg [.int .i64 c29a.Iface, .int .u32 c29a.Gate], .bool c29b]) rfl rfl rfl (f38_ok t0 x22 _ hc29) rfl rfl ?_
    refine GX.m rfl ?_
    refine GX.q (.agg [.int .i64 c29a.Iface, .int .u32 c29a.Gate]) ?_
    refine GX.q (.bool c29b) ?_
    refine GX.step (v' := .ptr 5 0) (heap' := [(0, .box (TTable.c t0)), (1, .box (TCand.c c1)), (2, .box [.int .u32 0, .int .i64 0, .int .i64 0, .int .i64 0, .int .i64 0, .int .i64 0, .int .u32 0, .bool false, .int .i64 0, .nils]), (3, .row 2 61 (hops6.map THop.c)), (4, .box (THop.c x22)), (5, .box [.int .i64 0, .int .u32 0])]) (next' := 6) rfl rfl rfl rfl rfl rfl rfl ?_
    refine GX.step0 (heap' := [(0, .box (TTable.c t0)), (1, .box (TCand.c c1)), (2, .box [.int .u32 0, .int .i64 0, .int .i64 0, .int .i64 0, .int .i64 0, .int .i64 0, .int .u32 0, .bool false, .int .i64 0, .nils]), (3, .row 2 61 (hops6.map THop.c)), (4, .box (THop.c x22)), (5, .box (THop.c c29a))]) (next' := 6) rfl rfl rfl rfl rfl ?_
    refine GX.m rfl ?_
    refine GX.done ?_
    refine WK.sr mixed ?_
    refine GX.m rfl ?_
    refine GX.done ?_
    rcases bool_two (c29b) with hb15 | hb15
    ·rw [hb15]; try simp only [hb15, bb] at hL_11
     refine WK.condF rfl ?_
     refine WK.skip ?_
     refine WK.nil (QF.normal (hK14 _ ?_))
     refine WK.regx mixed ?_
     refine GX.pure (v' := .int .i64 ((i22 + 1 : Nat) : Int)) rfl rfl rfl rfl (congrArg (PVal.int .i64) (wrap_up hlt11 hlen_11)) ?_
     refine GX.m rfl ?_
     refine GX.done ?_
     refine WK.nil (QF.normal ?_)
     exact hagain_11 _ (c1.Hops.length - (i22 + 1)) ⟨[(2, .ptr 0 0), (3, .ptr 1 0), (4, .ptr 2 0), (6, .own 3 2 0 hops6.length), (20, .ro 2 (c1.Hops.map THop.c)), (21, .int .i64 (c1.Hops.length : Int)), (22, .int .i64 ((i22 + 1) : Int))], [(0, .box (TTable.c t0)), (1, .box (TCand.c c1)), (2, .box [.int .u32 0, .int .i64 0, .int .i64 0, .int .i64 0, .int .i64 0, .int .i64 0, .int .u32 0, .bool false, .int .i64 0, .nils]), (3, .row 2 61 (hops6.map THop.c))], 4⟩ (by omega) (Conv.keep [0, 1, 2, 3] [] [2, 3, 4, 6, 20, 21, 22] rfl rfl (viewE_cons rfl rfl (viewE_cons rfl rfl (viewE_cons rfl rfl (viewE_cons rfl rfl (viewE_cons rfl rfl (viewE_cons rfl rfl (viewE_cons rfl rfl viewE_nil))))))) rfl rfl) ⟨i22 + 1, hops6, (by omega), rfl, hL_11, rfl⟩
    ·rw [hb15]; try simp only [hb15, bb] at hL_11
     refine WK.condT rfl ?_
     refine WK.regx mixed ?_
     refine GX.m rfl ?_
     refine GX.q (.agg (THop.c c29a)) ?_
     refine GX.step (v' := .own 6 2 0 (([c29a] : List THop)).length) (heap' := [(0, .box (TTable.c t0)), (1, .box (TCand.c c1)), (2, .box [.int .u32 0, .int .i64 0, .int .i64 0, .int .i64 0, .int .i64 0, .int .i64 0, .int .u32 0, .bool false, .int .i64 0, .nils]), (3, .row 2 61 (hops6.map THop.c)), (4, .box (THop.c x22)), (5, .box (THop.c c29a)), (6, .row 2 61 (([c29a] : List THop).map THop.c))]) (next' := 7) rfl rfl rfl rfl rfl rfl rfl ?_
     rcases bool_two (decide (hops6.length < 1099511627776)) with hg16 | hg16
     ·simp only [hg16, bb] at hL_11
      try dsimp only at hL_11
      subst hL_11
      try dsimp only at hR
      cases hR
     simp only [hg16, bb] at hL_11
     have hg16_ := of_decide_eq_true hg16
     refine GX.appT (c := THop.c) (L := hops6) (X := ([c29a] : List THop)) (heap' := [(0, .box (TTable.c t0)), (1, .box (TCand.c c1)), (2, .box [.int .u32 0, .int .i64 0, .int .i64 0, .int .i64 0, .int .i64 0, .int .i64 0, .int .u32 0, .bool false, .int .i64 0, .nils]), (4, .box (THop.c x22)), (5, .box (THop.c c29a)), (6, .row 2 61 (([c29a] : List THop).map THop.c)), (7, .row 2 61 ((hops6 ++ ([c29a] : List THop)).map THop.c))]) (next' := 8) rfl rfl rfl rfl (elems_own rfl) (by ((try simp only [List.length_append, List.length_cons, List.length_nil, List.length_map, decide_eq_true_eq, decide_eq_false_iff_not] at *) <;> omega)) (by ((try simp only [List.length_append, List.length_cons, List.length_nil, List.length_map, decide_eq_true_eq, decide_eq_false_iff_not] at *) <;> omega)) rfl rfl rfl rfl ?_
     refine GX.m rfl ?_
     refine GX.done ?_
     refine WK.nil (QF.normal (hK14 _ ?_))
     refine WK.regx mixed ?_
     refine GX.pure (v' := .int .i64 ((i22 + 1 : Nat) : Int)) rfl rfl rfl rfl (congrArg (PVal.int .i64) (wrap_up hlt11 hlen_11)) ?_
     refine GX.m rfl ?_
     refine GX.done ?_
     refine WK.nil (QF.normal ?_)
     exact hagain_11 _ (c1.Hops.length - (i22 + 1)) ⟨[(2, .ptr 0 0), (3, .ptr 1 0), (4, .ptr 2 0), (6, .own 3 2 0 (hops6 ++ ([c29a] : List THop)).length), (20, .ro 2 (c1.Hops.map THop.c)), (21, .int .i64 (c1.Hops.length : Int)), (22, .int .i64 ((i22 + 1) : Int))], [(0, .box (TTable.c t0)), (1, .box (TCand.c c1)), (2, .box [.int .u32 0, .int .i64 0, .int .i64 0, .int .i64 0, .int .i64 0, .int .i64 0, .int .u32 0, .bool false, .int .i64 0, .nils]), (3, .row 2 61 ((hops6 ++ ([c29a] : List THop)).map THop.c))], 4⟩ (by omega) (Conv.keep [0, 1, 2, 7] [] [2, 3, 4, 6, 20, 21, 22] rfl rfl (viewE_cons rfl rfl (viewE_cons rfl rfl (viewE_cons rfl rfl (viewE_cons rfl rfl (viewE_cons rfl rfl (viewE_cons rfl rfl (viewE_cons rfl rfl viewE_nil))))))) rfl rfl) ⟨i22 + 1, (hops6 ++ ([c29a] : List THop)), (by omega), rfl, hL_11, rfl⟩
  ·rw [hb2]; first | replace hR := cond_t hb2 hR | (try simp only [hb2, bb] at hR)
   refine WK.condT rfl ?_
   refine WK.sr mixed ?_
   refine GX.q (.agg (TCand.c c1)) ?_
   refine GX.step0 (heap' := [(0, .box (TTable.c t0)), (1, .box (TCand.c c1)), (2, .box (TCand.c c1))]) (next' := 3) rfl rfl rfl rfl rfl ?_
   refine GX.m rfl ?_
   refine GX.done ?_
   refine WK.ret ?_
   obtain rfl := Option.some.inj hR
   exact RetQ.fr [] (.inr rfl) rfl rfl rfl rfl

theorem f36_ok (t0 : TTable) (R : List TCand) (hR : allO t0 = some R) : FnOk Try.prog 36 [.agg (TTable.c t0)] [] 0 (.ro 10 (R.map TCand.c)) [] 0 := f36_of f19_ok f16_ok t0 R hR

theorem f18_ok (t0 : TTable) (a1 : Int) (R : TCand × Bool) (hR : F18_rib_Find t0 a1 = some R) : FnOk Try.prog 18 [.agg (TTable.c t0), .int .u32 a1] [] 0 (.tup [.agg (TCand.c R.1), .bool R.2]) [] 0 := by
 refine FnOk.wk i18 rfl rfl ?_
 unfold F18_rib_Find at hR
 try dsimp only at hR
 change WK _ _ _ [ac18] _ ⟨[(0, .agg (TTable.c t0)), (1, .int .u32 a1)], [], 0⟩
 unfold ac18
 refine WK.sr mixed ?_
 refine GX.step (v' := .ptr 0 0) (heap' := [(0, .box (TTable.c t0))]) (next' := 1) rfl rfl rfl rfl rfl rfl rfl ?_
 refine GX.step (v' := .ptr 1 0) (heap' := [(0, .box (TTable.c t0)), (1, .box [.int .u32 0, .int .i64 0, .int .i64 0, .int .i64 0, .int .i64 0, .int .i64 0, .int .u32 0, .bool false, .int .i64 0, .nils])]) (next' := 2) rfl rfl rfl rfl rfl rfl rfl ?_
 refine GX.m rfl ?_
 refine GX.done ?_
 refine WK.sr mixed ?_
 refine GX.step (v' := .ptr 2 0) (heap' := [(0, .box (TTable.c t0)), (1, .box [.int .u32 0, .int .i64 0, .int .i64 0, .int .i64 0, .int .i64 0, .int .i64 0, .int .u32 0, .bool false, .int .i64 0, .nils]), (2, .box [.int .u32 0, .int .i64 0, .int .i64 0, .int .i64 0, .int .i64 0, .int .i64 0, .int .u32 0, .bool false, .int .i64 0, .nils])]) (next' := 3) rfl rfl rfl rfl rfl rfl rfl ?_
 refine GX.done ?_
 refine WK.sr mixed ?_
 refine GX.m rfl ?_
 refine GX.done ?_
 refine WK.seq ?_
 refine WK.sr mixed ?_
 refine GX.q (.agg (TTable.c t0)) ?_
 generalize hc11 : allO t0 = c11 at hR
 rcases c11 with _ | c11
 ·try dsimp only at hR
  cases hR
 try dsimp only at hR
 try dsimp only at hR
 refine GX.callp (r := .ro 10 (c11.map TCand.c)) rfl rfl rfl (f36_ok t0 _ hc11) rfl rfl ?_
 refine GX.pure (v' := .int .i64 (c11.length : Int)) rfl rfl rfl rfl (len_map _ _) ?_
 refine GX.m rfl ?_
 refine GX.done ?_
 refine WK.weakB (id := 2) (cs' := [.int .u32 0, .int .i64 0, .int .i64 0, .int .i64 0, .int .i64 0, .int .i64 0, .int .u32 0, .bool false, .int .i64 0, .ro 2 (([] : List THop).map THop.c)]) (heap' := [(0, .box (TTable.c t0)), (1, .box [.int .u32 0, .int .i64 0, .int .i64 0, .int .i64 0, .int .i64 0, .int .i64 0, .int .u32 0, .bool false, .int .i64 0, .nils]), (2, .box [.int .u32 0, .int .i64 0, .int .i64 0, .int .i64 0, .int .i64 0, .int .i64 0, .int .u32 0, .bool false, .int .i64 0, .ro 2 (([] : List THop).map THop.c)])]) rfl (.cons .refl (.cons .refl (.cons .refl (.cons .refl (.cons .refl (.cons .refl (.cons .refl (.cons .refl (.cons .refl (.cons .nil .refl)))))))))) (by simp) rfl ?_
 refine WK.len (t := 11) rfl (by simp) (fun hlen_10 => ?_)
 rw [List.length_map] at hlen_10
 generalize hZ_10 : F18_rib_Find_l1 a1 false (⟨(⟨0, 0⟩ : TPrefix), 0, 0, 0, 0, 0, false, 0, ([] : List THop)⟩ : TCand) c11 = Z_10 at hR
 refine WK.forK (fun k s => ∃ (i13 : Nat) (found7 : Bool) (best6 : TCand), i13 ≤ c11.length ∧ k = c11.length - i13 ∧ F18_rib_Find_l1 a1 found7 best6 (c11.drop i13) = Z_10 ∧ s = ⟨[(1, .int .u32 a1), (4, .ptr 0 0), (6, .ptr 1 0), (7, .bool found7), (11, .ro 10 (c11.map TCand.c)), (12, .int .i64 (c11.length : Int)), (13, .int .i64 (i13 : Int))], [(0, .box [.int .u32 0, .int .i64 0, .int .i64 0, .int .i64 0, .int .i64 0, .int .i64 0, .int .u32 0, .bool false, .int .i64 0, .nils]), (1, .box (TCand.c best6))], 2⟩) c11.length ⟨⟨[(1, .int .u32 a1), (4, .ptr 0 0), (6, .ptr 1 0), (7, .bool false), (11, .ro 10 (c11.map TCand.c)), (12, .int .i64 (c11.length : Int)), (13, .int .i64 (0 : Int))], [(0, .box [.int .u32 0, .int .i64 0, .int .i64 0, .int .i64 0, .int .i64 0, .int .i64 0, .int .u32 0, .bool false, .int .i64 0, .nils]), (1, .box (TCand.c (⟨(⟨0, 0⟩ : TPrefix), 0, 0, 0, 0, 0, false, 0, ([] : List THop)⟩ : TCand)))], 2⟩, Conv.keep [1, 2] [] [1, 4, 6, 7, 11, 12, 13] rfl rfl (viewE_cons rfl rfl (viewE_cons rfl rfl (viewE_cons rfl rfl (viewE_cons rfl rfl (viewE_cons rfl rfl (viewE_cons rfl rfl (viewE_cons rfl rfl viewE_nil))))))) rfl rfl, 0, false, (⟨(⟨0, 0⟩ : TPrefix), 0, 0, 0, 0, 0, false, 0, ([] : List THop)⟩ : TCand), (by omega), rfl, hZ_10, rfl⟩ ?_
 rintro _ _ ⟨i13, found7, best6, hi_10, rfl, hL_10, rfl⟩ again_10 out_10 Q_10 hagain_10 hout_10 hQ_10
 refine WK.sr mixed ?_
 refine GX.q (.bool (decide ((i13 : Int) < (c11.length : Int)))) ?_
 refine GX.done ?_
 refine WK.seq ?_
 rcases bool_two (decide ((i13 : Int) < (c11.length : Int))) with hb11 | hb11
 ·rw [hb11]
  rw [drop_end hb11, F18_rib_Find_l1] at hL_10
  refine WK.condF rfl ?_
  refine WK.exit ?_
  refine QF.exit (hout_10 _ ?_)
  subst hL_10
  try dsimp only [cond_true, cond_false] at hR
  refine WK.sr mixed ?_
  refine GX.q (.agg (TCand.c best6)) ?_
  refine GX.m rfl ?_
  refine GX.step0 (heap' := [(0, .box (TCand.c best6)), (1, .box (TCand.c best6))]) (next' := 2) rfl rfl rfl rfl rfl ?_
  refine GX.m rfl ?_
  refine GX.done ?_
  refine WK.ret ?_
  obtain rfl := Option.some.inj hR
  exact RetQ.fr [] (.inr rfl) rfl rfl rfl rfl
 ·rw [hb11]
  obtain ⟨x13, hx10, hd10, hlt10⟩ := drop_more hb11
  rw [hd10, F18_rib_Find_l1] at hL_10
  refine WK.condT rfl ?_
  refine WK.skip ?_
  refine WK.seq ?_
  refine WK.blockK (fun _ hK12 => ?_)
  refine WK.sr mixed ?_
  refine GX.idxT (c := TCand.c) (x := x13) rfl rfl rfl (Int.natCast_nonneg _) hx10 ?_
  refine GX.q (.agg (TCand.c x13)) ?_
  refine GX.step (v' := .ptr 2 0) (heap' := [(0, .box [.int .u32 0, .int .i64 0, .int .i64 0, .int .i64 0, .int .i64 0, .int .i64 0, .int .u32 0, .bool false, .int .i64 0, .nils]), (1, .box (TCand.c best6)), (2, .box [.int .u32 0, .int .i64 0, .int .i64 0, .int .i64 0, .int .i64 0, .int .i64 0, .int .u32 0, .bool false, .int .i64 0, .nils])]) (next' := 3) rfl rfl rfl rfl rfl rfl rfl ?_
  refine GX.step0 (heap' := [(0, .box [.int .u32 0, .int .i64 0, .int .i64 0, .int .i64 0, .int .i64 0, .int .i64 0, .int .u32 0, .bool false, .int .i64 0, .nils]), (1, .box (TCand.c best6)), (2, .box (TCand.c x13))]) (next' := 3) rfl rfl rfl rfl rfl ?_
  refine GX.done ?_
  refine WK.sr mixed ?_
  refine GX.q (.ptr 2 0) ?_
  refine GX.q (.agg [.int .u32 x13.P.A, .int .i64 x13.P.N]) ?_
  refine GX.m rfl ?_
  generalize hc20 : F37_addr_Has x13.P a1 = c20 at hL_10
  try dsimp only at hL_10
  refine GX.callp (r := .bool c20) rfl rfl rfl (f37_ok x13.P a1 _ hc20) rfl rfl ?_
  refine GX.m rfl ?_
  rcases bool_two (c20) with hb13 | hb13
  ·rw [hb13]; try simp only [hb13, bb] at hL_10
   iterate 11 refine GX.skip rfl rfl ?_
   refine GX.q (.bool false) ?_
   refine GX.done ?_
   refine WK.condF rfl ?_
   refine WK.skip ?_
   refine WK.nil (QF.normal (hK12 _ ?_))
   refine WK.regx mixed ?_
   refine GX.pure (v' := .int .i64 ((i13 + 1 : Nat) : Int)) rfl rfl rfl rfl (congrArg (PVal.int .i64) (wrap_up hlt10 hlen_10)) ?_
   refine GX.m rfl ?_
   refine GX.done ?_
   refine WK.nil (QF.normal ?_)
   exact hagain_10 _ (c11.length - (i13 + 1)) ⟨[(1, .int .u32 a1), (4, .ptr 0 0), (6, .ptr 1 0), (7, .bool found7), (11, .ro 10 (c11.map TCand.c)), (12, .int .i64 (c11.length : Int)), (13, .int .i64 ((i13 + 1) : Int))], [(0, .box [.int .u32 0, .int .i64 0, .int .i64 0, .int .i64 0, .int .i64 0, .int .i64 0, .int .u32 0, .bool false, .int .i64 0, .nils]), (1, .box (TCand.c best6))], 2⟩ (by omega) (Conv.keep [0, 1] [] [1, 4, 6, 7, 11, 12, 13] rfl rfl (viewE_cons rfl rfl (viewE_cons rfl rfl (viewE_cons rfl rfl (viewE_cons rfl rfl (viewE_cons rfl rfl (viewE_cons rfl rfl (viewE_cons rfl rfl viewE_nil))))))) rfl rfl) ⟨i13 + 1, found7, best6, (by omega), rfl, hL_10, rfl⟩
  ·rw [hb13]; try simp only [hb13, bb] at hL_10
   refine GX.m rfl ?_
   refine GX.q (.bool (!found7)) ?_
   refine GX.m rfl ?_
   rcases bool_two (found7) with hb14 | hb14
   ·rw [hb14]; try simp only [hb14, bb] at hL_10
    iterate 7 refine GX.skip rfl rfl ?_
    iterate 2 refine GX.q (.bool true) ?_
    refine GX.done ?_
    refine WK.condT rfl ?_
    refine WK.regx mixed ?_
    refine GX.q (.agg (TCand.c x13)) ?_
    refine GX.step0 (heap' := [(0, .box [.int .u32 0, .int .i64 0, .int .i64 0, .int .i64 0, .int .i64 0, .int .i64 0, .int .u32 0, .bool false, .int .i64 0, .nils]), (1, .box (TCand.c x13)), (2, .box (TCand.c x13))]) (next' := 3) rfl rfl rfl rfl rfl ?_
    refine GX.m rfl ?_
    refine GX.done ?_
    refine WK.nil (QF.normal (hK12 _ ?_))
    refine WK.regx mixed ?_
    refine GX.pure (v' := .int .i64 ((i13 + 1 : Nat) : Int)) rfl rfl rfl rfl (congrArg (PVal.int .i64) (wrap_up hlt10 hlen_10)) ?_
    refine GX.m rfl ?_
    refine GX.done ?_
    refine WK.nil (QF.normal ?_)
    exact hagain_10 _ (c11.length - (i13 + 1)) ⟨[(1, .int .u32 a1), (4, .ptr 0 0), (6, .ptr 1 0), (7, .bool true), (11, .ro 10 (c11.map TCand.c)), (12, .int .i64 (c11.length : Int)), (13, .int .i64 ((i13 + 1) : Int))], [(0, .box [.int .u32 0, .int .i64 0, .int .i64 0, .int .i64 0, .int .i64 0, .int .i64 0, .int .u32 0, .bool false, .int .i64 0, .nils]), (1, .box (TCand.c x13))], 2⟩ (by omega) (Conv.keep [0, 1] [] [1, 4, 6, 7, 11, 12, 13] rfl rfl (viewE_cons rfl rfl (viewE_cons rfl rfl (viewE_cons rfl rfl (viewE_cons rfl rfl (viewE_cons rfl rfl (viewE_cons rfl rfl (viewE_cons rfl rfl viewE_nil))))))) rfl rfl) ⟨i13 + 1, true, x13, (by omega), rfl, hL_10, rfl⟩
   ·rw [hb14]; try simp only [hb14, bb] at hL_10
    refine GX.q (.ptr 2 0) ?_
    refine GX.q (.ptr 2 1) ?_
    refine GX.q (.int .i64 x13.P.N) ?_
    refine GX.q (.ptr 1 0) ?_
    refine GX.q (.ptr 1 1) ?_
    refine GX.q (.int .i64 best6.P.N) ?_
    iterate 3 refine GX.q (.bool (decide (best6.P.N < x13.P.N))) ?_
    refine GX.done ?_
    rcases bool_two (decide (best6.P.N < x13.P.N)) with hb15 | hb15
    ·rw [hb15]; try simp only [hb15, bb] at hL_10
     refine WK.condF rfl ?_
     refine WK.skip ?_
     refine WK.nil (QF.normal (hK12 _ ?_))
     refine WK.regx mixed ?_
     refine GX.pure (v' := .int .i64 ((i13 + 1 : Nat) : Int)) rfl rfl rfl rfl (congrArg (PVal.int .i64) (wrap_up hlt10 hlen_10)) ?_
     refine GX.m rfl ?_
     refine GX.done ?_
     refine WK.nil (QF.normal ?_)
     exact hagain_10 _ (c11.length - (i13 + 1)) ⟨[(1, .int .u32 a1), (4, .ptr 0 0), (6, .ptr 1 0), (7, .bool true), (11, .ro 10 (c11.map TCand.c)), (12, .int .i64 (c11.length : Int)), (13, .int .i64 ((i13 + 1) : Int))], [(0, .box [.int .u32 0, .int .i64 0, .int .i64 0, .int .i64 0, .int .i64 0, .int .i64 0, .int .u32 0, .bool false, .int .i64 0, .nils]), (1, .box (TCand.c best6))], 2⟩ (by omega) (Conv.keep [0, 1] [] [1, 4, 6, 7, 11, 12, 13] rfl rfl (viewE_cons rfl rfl (viewE_cons rfl rfl (viewE_cons rfl rfl (viewE_cons rfl rfl (viewE_cons rfl rfl (viewE_cons rfl rfl (viewE_cons rfl rfl viewE_nil))))))) rfl rfl) ⟨i13 + 1, true, best6, (by omega), rfl, hL_10, rfl⟩
    ·rw [hb15]; try simp only [hb15, bb] at hL_10
     refine WK.condT rfl ?_
     refine WK.regx mixed ?_
     refine GX.q (.agg (TCand.c x13)) ?_
     refine GX.step0 (heap' := [(0, .box [.int .u32 0, .int .i64 0, .int .i64 0, .int .i64 0, .int .i64 0, .int .i64 0, .int .u32 0, .bool false, .int .i64 0, .nils]), (1, .box (TCand.c x13)), (2, .box (TCand.c x13))]) (next' := 3) rfl rfl rfl rfl rfl ?_
     refine GX.m rfl ?_
     refine GX.done ?_
     refine WK.nil (QF.normal (hK12 _ ?_))
     refine WK.regx mixed ?_
     refine GX.pure (v' := .int .i64 ((i13 + 1 : Nat) : Int)) rfl rfl rfl rfl (congrArg (PVal.int .i64) (wrap_up hlt10 hlen_10)) ?_
     refine GX.m rfl ?_
     refine GX.done ?_
     refine WK.nil (QF.normal ?_)
     exact hagain_10 _ (c11.length - (i13 + 1)) ⟨[(1, .int .u32 a1), (4, .ptr 0 0), (6, .ptr 1 0), (7, .bool true), (11, .ro 10 (c11.map TCand.c)), (12, .int .i64 (c11.length : Int)), (13, .int .i64 ((i13 + 1) : Int))], [(0, .box [.int .u32 0, .int .i64 0, .int .i64 0, .int .i64 0, .int .i64 0, .int .i64 0, .int .u32 0, .bool false, .int .i64 0, .nils]), (1, .box (TCand.c x13))], 2⟩ (by omega) (Conv.keep [0, 1] [] [1, 4, 6, 7, 11, 12, 13] rfl rfl (viewE_cons rfl rfl (viewE_cons rfl rfl (viewE_cons rfl rfl (viewE_cons rfl rfl (viewE_cons rfl rfl (viewE_cons rfl rfl (viewE_cons rfl rfl viewE_nil))))))) rfl rfl) ⟨i13 + 1, true, x13, (by omega), rfl, hL_10, rfl⟩

theorem f26_ok (n0 : Int) (low1 : Int) (high2 : Int) (R : Bool) (hR : F26_rib_isIn n0 low1 high2 = R) : FnOk Try.prog 26 [.int .i64 n0, .int .i64 low1, .int .i64 high2] [] 0 (.bool R) [] 0 := by
 refine FnOk.wk i26 rfl rfl ?_
 unfold F26_rib_isIn at hR
 change WK _ _ _ [ac26] _ ⟨[(0, .int .i64 n0), (1, .int .i64 low1), (2, .int .i64 high2)], [], 0⟩
 unfold ac26
 refine WK.sr mixed ?_
 refine GX.m rfl ?_
 refine GX.done ?_
 refine WK.sr mixed ?_
 iterate 2 refine GX.m rfl ?_
 refine GX.q (.bool (decide (low1 ≤ n0))) ?_
 refine GX.m rfl ?_
 rcases bool_two (decide (low1 ≤ n0)) with hb1 | hb1
 ·rw [hb1]; try simp only [hb1, bb] at hR
  iterate 3 refine GX.skip rfl rfl ?_
  refine GX.q (.bool false) ?_
  refine GX.m rfl ?_
  refine GX.done ?_
  refine WK.ret ?_
  subst hR
  exact RetQ.fr [] (.inr rfl) rfl rfl rfl rfl
 ·rw [hb1]; try simp only [hb1, bb] at hR
  iterate 2 refine GX.m rfl ?_
  iterate 2 refine GX.q (.bool (decide (n0 ≤ high2))) ?_
  refine GX.m rfl ?_
  refine GX.done ?_
  refine WK.ret ?_
  subst hR
  exact RetQ.fr [] (.inr rfl) rfl rfl rfl rfl

theorem f8_ok (c0 : TCand) (R : Bool) (hR : F8_rib_May c0 = R) : FnOk Try.prog 8 [.agg (TCand.c c0)] [] 0 (.bool R) [] 0 := by
 refine FnOk.wk i8 rfl rfl ?_
 unfold F8_rib_May at hR
 change WK _ _ _ [ac8] _ ⟨[(0, .agg (TCand.c c0))], [], 0⟩
 unfold ac8
 refine WK.sr mixed ?_
 refine GX.step (v' := .ptr 0 0) (heap' := [(0, .box (TCand.c c0))]) (next' := 1) rfl rfl rfl rfl rfl rfl rfl ?_
 refine GX.m rfl ?_
 refine GX.done ?_
 refine WK.sr mixed ?_
 refine GX.q (.ptr 0 4) ?_
 refine GX.q (.int .i64 c0.Dist) ?_
 generalize hc7 : F26_rib_isIn c0.Dist 1 255 = c7 at hR
 try dsimp only at hR
 refine GX.callp (r := .bool c7) rfl rfl rfl (f26_ok c0.Dist 1 255 _ hc7) rfl rfl ?_
 refine GX.m rfl ?_
 refine GX.done ?_
 refine WK.seq ?_
 refine WK.sr mixed ?_
 refine GX.q (.ptr 0 2) ?_
 refine GX.q (.int .i64 c0.Proto) ?_
 refine GX.q (.bool (decide (c0.Proto = 0))) ?_
 refine GX.done ?_
 rcases bool_two (decide (c0.Proto = 0)) with hb1 | hb1
 ·rw [hb1]; try simp only [hb1, bb] at hR
  refine WK.condF rfl ?_
  refine WK.skip ?_
  refine WK.sr mixed ?_
  refine GX.q (.ptr 0 8) ?_
  refine GX.q (.int .i64 c0.From) ?_
  generalize hc16 : F26_rib_isIn c0.From 0 31 = c16 at hR
  try dsimp only at hR
  refine GX.callp (r := .bool c16) rfl rfl rfl (f26_ok c0.From 0 31 _ hc16) rfl rfl ?_
  refine GX.m rfl ?_
  rcases bool_two (c16) with hb2 | hb2
  ·rw [hb2]; try simp only [hb2, bb] at hR
   iterate 7 refine GX.skip rfl rfl ?_
   refine GX.q (.bool false) ?_
   refine GX.m rfl ?_
   refine GX.done ?_
   refine WK.sr mixed ?_
   refine GX.q (.ptr 0 0) ?_
   refine GX.q (.agg [.int .u32 c0.P.A, .int .i64 c0.P.N]) ?_
   generalize hc28 : F27_addr_May c0.P = c28 at hR
   try dsimp only at hR
   refine GX.callp (r := .bool c28) rfl rfl rfl (f27_ok c0.P _ hc28) rfl rfl ?_
   refine GX.m rfl ?_
   rcases bool_two (c28) with hb3 | hb3
   ·rw [hb3]; try simp only [hb3, bb] at hR
    iterate 3 refine GX.skip rfl rfl ?_
    refine GX.q (.bool false) ?_
    refine GX.m rfl ?_
    iterate 3 refine GX.skip rfl rfl ?_
    refine GX.q (.bool false) ?_
    refine GX.m rfl ?_
    iterate 3 refine GX.skip rfl rfl ?_
    refine GX.q (.bool false) ?_
    refine GX.m rfl ?_
    refine GX.skip rfl rfl ?_
    refine GX.q (.bool false) ?_
    refine GX.m rfl ?_
    refine GX.skip rfl rfl ?_
    refine GX.q (.bool false) ?_
    refine GX.m rfl ?_
    iterate 4 refine GX.skip rfl rfl ?_
    refine GX.q (.bool false) ?_
    refine GX.m rfl ?_
    refine GX.done ?_
    refine WK.ret ?_
    subst hR
    exact RetQ.fr [] (.inr rfl) rfl rfl rfl rfl
   ·rw [hb3]; try simp only [hb3, bb] at hR
    refine GX.q (.ptr 0 2) ?_
    refine GX.q (.int .i64 c0.Proto) ?_
    generalize hc32 : F26_rib_isIn c0.Proto 0 5 = c32 at hR
    try dsimp only at hR
    refine GX.callp (r := .bool c32) rfl rfl rfl (f26_ok c0.Proto 0 5 _ hc32) rfl rfl ?_
    refine GX.q (.bool c32) ?_
    refine GX.m rfl ?_
    rcases bool_two (c32) with hb4 | hb4
    ·rw [hb4]; try simp only [hb4, bb] at hR
     iterate 3 refine GX.skip rfl rfl ?_
     refine GX.q (.bool false) ?_
     refine GX.m rfl ?_
     iterate 3 refine GX.skip rfl rfl ?_
     refine GX.q (.bool false) ?_
     refine GX.m rfl ?_
     refine GX.skip rfl rfl ?_
     refine GX.q (.bool false) ?_
     refine GX.m rfl ?_
     refine GX.skip rfl rfl ?_
     refine GX.q (.bool false) ?_
     refine GX.m rfl ?_
     iterate 4 refine GX.skip rfl rfl ?_
     refine GX.q (.bool false) ?_
     refine GX.m rfl ?_
     refine GX.done ?_
     refine WK.ret ?_
     subst hR
     exact RetQ.fr [] (.inr rfl) rfl rfl rfl rfl
    ·rw [hb4]; try simp only [hb4, bb] at hR
     refine GX.q (.ptr 0 3) ?_
     refine GX.q (.int .i64 c0.Inst) ?_
     generalize hc37 : F26_rib_isIn c0.Inst 0 99 = c37 at hR
     try dsimp only at hR
     refine GX.callp (r := .bool c37) rfl rfl rfl (f26_ok c0.Inst 0 99 _ hc37) rfl rfl ?_
     refine GX.q (.bool c37) ?_
     refine GX.m rfl ?_
     rcases bool_two (c37) with hb5 | hb5
     ·rw [hb5]; try simp only [hb5, bb] at hR
      iterate 3 refine GX.skip rfl rfl ?_
      refine GX.q (.bool false) ?_
      refine GX.m rfl ?_
      refine GX.skip rfl rfl ?_
      refine GX.q (.bool false) ?_
      refine GX.m rfl ?_
      refine GX.skip rfl rfl ?_
      refine GX.q (.bool false) ?_
      refine GX.m rfl ?_
      iterate 4 refine GX.skip rfl rfl ?_
      refine GX.q (.bool false) ?_
      refine GX.m rfl ?_
      refine GX.done ?_
      refine WK.ret ?_
      subst hR
      exact RetQ.fr [] (.inr rfl) rfl rfl rfl rfl
     ·rw [hb5]; try simp only [hb5, bb] at hR
      refine GX.q (.ptr 0 5) ?_
      refine GX.q (.int .i64 c0.Metric) ?_
      iterate 2 refine GX.q (.bool (decide (0 ≤ c0.Metric))) ?_
      refine GX.m rfl ?_
      rcases bool_two (decide (0 ≤ c0.Metric)) with hb6 | hb6
      ·rw [hb6]; try simp only [hb6, bb] at hR
       refine GX.skip rfl rfl ?_
       refine GX.q (.bool false) ?_
       refine GX.m rfl ?_
       refine GX.skip rfl rfl ?_
       refine GX.q (.bool false) ?_
       refine GX.m rfl ?_
       iterate 4 refine GX.skip rfl rfl ?_
       refine GX.q (.bool false) ?_
       refine GX.m rfl ?_
       refine GX.done ?_
       refine WK.ret ?_
       subst hR
       exact RetQ.fr [] (.inr rfl) rfl rfl rfl rfl
      ·rw [hb6]; try simp only [hb6, bb] at hR
       refine GX.m rfl ?_
       refine GX.q (.bool c7) ?_
       refine GX.m rfl ?_
       rcases bool_two (c7) with hb7 | hb7
       ·rw [hb7]; try simp only [hb7, bb] at hR
        refine GX.skip rfl rfl ?_
        refine GX.q (.bool false) ?_
        refine GX.m rfl ?_
        iterate 4 refine GX.skip rfl rfl ?_
        refine GX.q (.bool false) ?_
        refine GX.m rfl ?_
        refine GX.done ?_
        refine WK.ret ?_
        subst hR
        exact RetQ.fr [] (.inr rfl) rfl rfl rfl rfl
       ·rw [hb7]; try simp only [hb7, bb] at hR
        refine GX.m rfl ?_
        refine GX.q (.bool false) ?_
        refine GX.m rfl ?_
        iterate 4 refine GX.skip rfl rfl ?_
        refine GX.q (.bool false) ?_
        refine GX.m rfl ?_
        refine GX.done ?_
        refine WK.ret ?_
        subst hR
        exact RetQ.fr [] (.inr rfl) rfl rfl rfl rfl
  ·rw [hb2]; try simp only [hb2, bb] at hR
   refine GX.q (.ptr 0 7) ?_
   refine GX.q (.bool c0.Leaked) ?_
   refine GX.m rfl ?_
   rcases bool_two (c0.Leaked) with hb8 | hb8
   ·rw [hb8]; try simp only [hb8, bb] at hR
    refine GX.q (.ptr 0 8) ?_
    refine GX.q (.int .i64 c0.From) ?_
    iterate 3 refine GX.q (.bool (decide (c0.From = 0))) ?_
    refine GX.m rfl ?_
    refine GX.done ?_
    refine WK.sr mixed ?_
    refine GX.q (.ptr 0 0) ?_
    refine GX.q (.agg [.int .u32 c0.P.A, .int .i64 c0.P.N]) ?_
    generalize hc28 : F27_addr_May c0.P = c28 at hR
    try dsimp only at hR
    refine GX.callp (r := .bool c28) rfl rfl rfl (f27_ok c0.P _ hc28) rfl rfl ?_
    refine GX.m rfl ?_
    rcases bool_two (c28) with hb9 | hb9
    ·rw [hb9]; try simp only [hb9, bb] at hR
     iterate 3 refine GX.skip rfl rfl ?_
     refine GX.q (.bool false) ?_
     refine GX.m rfl ?_
     iterate 3 refine GX.skip rfl rfl ?_
     refine GX.q (.bool false) ?_
     refine GX.m rfl ?_
     iterate 3 refine GX.skip rfl rfl ?_
     refine GX.q (.bool false) ?_
     refine GX.m rfl ?_
     refine GX.skip rfl rfl ?_
     refine GX.q (.bool false) ?_
     refine GX.m rfl ?_
     refine GX.skip rfl rfl ?_
     refine GX.q (.bool false) ?_
     refine GX.m rfl ?_
     iterate 4 refine GX.skip rfl rfl ?_
     refine GX.q (.bool false) ?_
     refine GX.m rfl ?_
     refine GX.done ?_
     refine WK.ret ?_
     subst hR
     exact RetQ.fr [] (.inr rfl) rfl rfl rfl rfl
    ·rw [hb9]; try simp only [hb9, bb] at hR
     refine GX.q (.ptr 0 2) ?_
     refine GX.q (.int .i64 c0.Proto) ?_
     generalize hc32 : F26_rib_isIn c0.Proto 0 5 = c32 at hR
     try dsimp only at hR
     refine GX.callp (r := .bool c32) rfl rfl rfl (f26_ok c0.Proto 0 5 _ hc32) rfl rfl ?_
     refine GX.q (.bool c32) ?_
     refine GX.m rfl ?_
     rcases bool_two (c32) with hb10 | hb10
     ·rw [hb10]; try simp only [hb10, bb] at hR
      iterate 3 refine GX.skip rfl rfl ?_
      refine GX.q (.bool false) ?_
      refine GX.m rfl ?_
      iterate 3 refine GX.skip rfl rfl ?_
      refine GX.q (.bool false) ?_
      refine GX.m rfl ?_
      refine GX.skip rfl rfl ?_
      refine GX.q (.bool false) ?_
      refine GX.m rfl ?_
      refine GX.skip rfl rfl ?_
      refine GX.q (.bool false) ?_
      refine GX.m rfl ?_
      iterate 4 refine GX.skip rfl rfl ?_
      refine GX.q (.bool false) ?_
      refine GX.m rfl ?_
      refine GX.done ?_
      refine WK.ret ?_
      subst hR
      exact RetQ.fr [] (.inr rfl) rfl rfl rfl rfl
     ·rw [hb10]; try simp only [hb10, bb] at hR
      refine GX.q (.ptr 0 3) ?_
      refine GX.q (.int .i64 c0.Inst) ?_
      generalize hc37 : F26_rib_isIn c0.Inst 0 99 = c37 at hR
      try dsimp only at hR
      refine GX.callp (r := .bool c37) rfl rfl rfl (f26_ok c0.Inst 0 99 _ hc37) rfl rfl ?_
      refine GX.q (.bool c37) ?_
      refine GX.m rfl ?_
      rcases bool_two (c37) with hb11 | hb11
      ·rw [hb11]; try simp only [hb11, bb] at hR
       iterate 3 refine GX.skip rfl rfl ?_
       refine GX.q (.bool false) ?_
       refine GX.m rfl ?_
       refine GX.skip rfl rfl ?_
       refine GX.q (.bool false) ?_
       refine GX.m rfl ?_
       refine GX.skip rfl rfl ?_
       refine GX.q (.bool false) ?_
       refine GX.m rfl ?_
       iterate 4 refine GX.skip rfl rfl ?_
       refine GX.q (.bool false) ?_
       refine GX.m rfl ?_
       refine GX.done ?_
       refine WK.ret ?_
       subst hR
       exact RetQ.fr [] (.inr rfl) rfl rfl rfl rfl
      ·rw [hb11]; try simp only [hb11, bb] at hR
       refine GX.q (.ptr 0 5) ?_
       refine GX.q (.int .i64 c0.Metric) ?_
       iterate 2 refine GX.q (.bool (decide (0 ≤ c0.Metric))) ?_
       refine GX.m rfl ?_
       rcases bool_two (decide (0 ≤ c0.Metric)) with hb12 | hb12
       ·rw [hb12]; try simp only [hb12, bb] at hR
        refine GX.skip rfl rfl ?_
        refine GX.q (.bool false) ?_
        refine GX.m rfl ?_
        refine GX.skip rfl rfl ?_
        refine GX.q (.bool false) ?_
        refine GX.m rfl ?_
        iterate 4 refine GX.skip rfl rfl ?_
        refine GX.q (.bool false) ?_
        refine GX.m rfl ?_
        refine GX.done ?_
        refine WK.ret ?_
        subst hR
        exact RetQ.fr [] (.inr rfl) rfl rfl rfl rfl
       ·rw [hb12]; try simp only [hb12, bb] at hR
        refine GX.m rfl ?_
        refine GX.q (.bool c7) ?_
        refine GX.m rfl ?_
        rcases bool_two (c7) with hb13 | hb13
        ·rw [hb13]; try simp only [hb13, bb] at hR
         refine GX.skip rfl rfl ?_
         refine GX.q (.bool false) ?_
         refine GX.m rfl ?_
         iterate 4 refine GX.skip rfl rfl ?_
         refine GX.q (.bool false) ?_
         refine GX.m rfl ?_
         refine GX.done ?_
         refine WK.ret ?_
         subst hR
         exact RetQ.fr [] (.inr rfl) rfl rfl rfl rfl
        ·rw [hb13]; try simp only [hb13, bb] at hR
         refine GX.m rfl ?_
         refine GX.q (.bool (decide (c0.From = 0))) ?_
         refine GX.m rfl ?_
         rcases bool_two (decide (c0.From = 0)) with hb14 | hb14
         ·rw [hb14]; try simp only [hb14, bb] at hR
          iterate 4 refine GX.skip rfl rfl ?_
          refine GX.q (.bool false) ?_
          refine GX.m rfl ?_
          refine GX.done ?_
          refine WK.ret ?_
          subst hR
          exact RetQ.fr [] (.inr rfl) rfl rfl rfl rfl
         ·rw [hb14]; try simp only [hb14, bb] at hR
          refine GX.q (.ptr 0 9) ?_
          refine GX.q (.ro 2 (c0.Hops.map THop.c)) ?_
          refine GX.pure (v' := .int .i64 (c0.Hops.length : Int)) rfl rfl rfl rfl (len_map _ _) ?_
          generalize hc54 : F26_rib_isIn (c0.Hops.length : Int) 1 8 = c54 at hR
          try dsimp only at hR
          refine GX.callp (r := .bool c54) rfl rfl rfl (f26_ok (c0.Hops.length : Int) 1 8 _ hc54) rfl rfl ?_
          refine GX.q (.bool c54) ?_
          refine GX.m rfl ?_
          refine GX.done ?_
          refine WK.ret ?_
          subst hR
          exact RetQ.fr [] (.inr rfl) rfl rfl rfl rfl
   ·rw [hb8]; try simp only [hb8, bb] at hR
    iterate 3 refine GX.skip rfl rfl ?_
    iterate 2 refine GX.q (.bool true) ?_
    refine GX.m rfl ?_
    refine GX.done ?_
    refine WK.sr mixed ?_
    refine GX.q (.ptr 0 0) ?_
    refine GX.q (.agg [.int .u32 c0.P.A, .int .i64 c0.P.N]) ?_
    generalize hc28 : F27_addr_May c0.P = c28 at hR
    try dsimp only at hR
    refine GX.callp (r := .bool c28) rfl rfl rfl (f27_ok c0.P _ hc28) rfl rfl ?_
    refine GX.m rfl ?_
    rcases bool_two (c28) with hb15 | hb15
    ·rw [hb15]; try simp only [hb15, bb] at hR
     iterate 3 refine GX.skip rfl rfl ?_
     refine GX.q (.bool false) ?_
     refine GX.m rfl ?_
     iterate 3 refine GX.skip rfl rfl ?_
     refine GX.q (.bool false) ?_
     refine GX.m rfl ?_
     iterate 3 refine GX.skip rfl rfl ?_
     refine GX.q (.bool false) ?_
     refine GX.m rfl ?_
     refine GX.skip rfl rfl ?_
     refine GX.q (.bool false) ?_
     refine GX.m rfl ?_
     refine GX.skip rfl rfl ?_
     refine GX.q (.bool false) ?_
     refine GX.m rfl ?_
     iterate 4 refine GX.skip rfl rfl ?_
     refine GX.q (.bool false) ?_
     refine GX.m rfl ?_
     refine GX.done ?_
     refine WK.ret ?_
     subst hR
     exact RetQ.fr [] (.inr rfl) rfl rfl rfl rfl
    ·rw [hb15]; try simp only [hb15, bb] at hR
     refine GX.q (.ptr 0 2) ?_
     refine GX.q (.int .i64 c0.Proto) ?_
     generalize hc32 : F26_rib_isIn c0.Proto 0 5 = c32 at hR
     try dsimp only at hR
     refine GX.callp (r := .bool c32) rfl rfl rfl (f26_ok c0.Proto 0 5 _ hc32) rfl rfl ?_
     refine GX.q (.bool c32) ?_
     refine GX.m rfl ?_
     rcases bool_two (c32) with hb16 | hb16
     ·rw [hb16]; try simp only [hb16, bb] at hR
      iterate 3 refine GX.skip rfl rfl ?_
      refine GX.q (.bool false) ?_
      refine GX.m rfl ?_
      iterate 3 refine GX.skip rfl rfl ?_
      refine GX.q (.bool false) ?_
      refine GX.m rfl ?_
      refine GX.skip rfl rfl ?_
      refine GX.q (.bool false) ?_
      refine GX.m rfl ?_
      refine GX.skip rfl rfl ?_
      refine GX.q (.bool false) ?_
      refine GX.m rfl ?_
      iterate 4 refine GX.skip rfl rfl ?_
      refine GX.q (.bool false) ?_
      refine GX.m rfl ?_
      refine GX.done ?_
      refine WK.ret ?_
      subst hR
      exact RetQ.fr [] (.inr rfl) rfl rfl rfl rfl
     ·rw [hb16]; try simp only [hb16, bb] at hR
      refine GX.q (.ptr 0 3) ?_
      refine GX.q (.int .i64 c0.Inst) ?_
      generalize hc37 : F26_rib_isIn c0.Inst 0 99 = c37 at hR
      try dsimp only at hR
      refine GX.callp (r := .bool c37) rfl rfl rfl (f26_ok c0.Inst 0 99 _ hc37) rfl rfl ?_
      refine GX.q (.bool c37) ?_
      refine GX.m rfl ?_
      rcases bool_two (c37) with hb17 | hb17
      ·rw [hb17]; try simp only [hb17, bb] at hR
       iterate 3 refine GX.skip rfl rfl ?_
       refine GX.q (.bool false) ?_
       refine GX.m rfl ?_
       refine GX.skip rfl rfl ?_
       refine GX.q (.bool false) ?_
       refine GX.m rfl ?_
       refine GX.skip rfl rfl ?_
       refine GX.q (.bool false) ?_
       refine GX.m rfl ?_
       iterate 4 refine GX.skip rfl rfl ?_
       refine GX.q (.bool false) ?_
       refine GX.m rfl ?_
       refine GX.done ?_
       refine WK.ret ?_
       subst hR
       exact RetQ.fr [] (.inr rfl) rfl rfl rfl rfl
      ·rw [hb17]; try simp only [hb17, bb] at hR
       refine GX.q (.ptr 0 5) ?_
       refine GX.q (.int .i64 c0.Metric) ?_
       iterate 2 refine GX.q (.bool (decide (0 ≤ c0.Metric))) ?_
       refine GX.m rfl ?_
       rcases bool_two (decide (0 ≤ c0.Metric)) with hb18 | hb18
       ·rw [hb18]; try simp only [hb18, bb] at hR
        refine GX.skip rfl rfl ?_
        refine GX.q (.bool false) ?_
        refine GX.m rfl ?_
        refine GX.skip rfl rfl ?_
        refine GX.q (.bool false) ?_
        refine GX.m rfl ?_
        iterate 4 refine GX.skip rfl rfl ?_
        refine GX.q (.bool false) ?_
        refine GX.m rfl ?_
        refine GX.done ?_
        refine WK.ret ?_
        subst hR
        exact RetQ.fr [] (.inr rfl) rfl rfl rfl rfl
       ·rw [hb18]; try simp only [hb18, bb] at hR
        refine GX.m rfl ?_
        refine GX.q (.bool c7) ?_
        refine GX.m rfl ?_
        rcases bool_two (c7) with hb19 | hb19
        ·rw [hb19]; try simp only [hb19, bb] at hR
         refine GX.skip rfl rfl ?_
         refine GX.q (.bool false) ?_
         refine GX.m rfl ?_
         iterate 4 refine GX.skip rfl rfl ?_
         refine GX.q (.bool false) ?_
         refine GX.m rfl ?_
         refine GX.done ?_
         refine WK.ret ?_
         subst hR
         exact RetQ.fr [] (.inr rfl) rfl rfl rfl rfl
        ·rw [hb19]; try simp only [hb19, bb] at hR
         refine GX.m rfl ?_
         refine GX.q (.bool true) ?_
         refine GX.m rfl ?_
         refine GX.q (.ptr 0 9) ?_
         refine GX.q (.ro 2 (c0.Hops.map THop.c)) ?_
         refine GX.pure (v' := .int .i64 (c0.Hops.length : Int)) rfl rfl rfl rfl (len_map _ _) ?_
         generalize hc54 : F26_rib_isIn (c0.Hops.length : Int) 1 8 = c54 at hR
         try dsimp only at hR
         refine GX.callp (r := .bool c54) rfl rfl rfl (f26_ok (c0.Hops.length : Int) 1 8 _ hc54) rfl rfl ?_
         refine GX.q (.bool c54) ?_
         refine GX.m rfl ?_
         refine GX.done ?_
         refine WK.ret ?_
         subst hR
         exact RetQ.fr [] (.inr rfl) rfl rfl rfl rfl
 ·rw [hb1]; try simp only [hb1, bb] at hR
  refine WK.condT rfl ?_
  refine WK.regx mixed ?_
  refine GX.q (.ptr 0 4) ?_
  refine GX.q (.int .i64 c0.Dist) ?_
  refine GX.q (.bool (decide (c0.Dist = 0))) ?_
  refine GX.m rfl ?_
  refine GX.done ?_
  refine WK.sr mixed ?_
  refine GX.q (.ptr 0 8) ?_
  refine GX.q (.int .i64 c0.From) ?_
  generalize hc16 : F26_rib_isIn c0.From 0 31 = c16 at hR
  try dsimp only at hR
  refine GX.callp (r := .bool c16) rfl rfl rfl (f26_ok c0.From 0 31 _ hc16) rfl rfl ?_
  refine GX.m rfl ?_
  rcases bool_two (c16) with hb20 | hb20
  ·rw [hb20]; try simp only [hb20, bb] at hR
   iterate 7 refine GX.skip rfl rfl ?_
   refine GX.q (.bool false) ?_
   refine GX.m rfl ?_
   refine GX.done ?_
   refine WK.sr mixed ?_
   refine GX.q (.ptr 0 0) ?_
   refine GX.q (.agg [.int .u32 c0.P.A, .int .i64 c0.P.N]) ?_
   generalize hc28 : F27_addr_May c0.P = c28 at hR
   try dsimp only at hR
   refine GX.callp (r := .bool c28) rfl rfl rfl (f27_ok c0.P _ hc28) rfl rfl ?_
   refine GX.m rfl ?_
   rcases bool_two (c28) with hb21 | hb21
   ·rw [hb21]; try simp only [hb21, bb] at hR
    iterate 3 refine GX.skip rfl rfl ?_
    refine GX.q (.bool false) ?_
    refine GX.m rfl ?_
    iterate 3 refine GX.skip rfl rfl ?_
    refine GX.q (.bool false) ?_
    refine GX.m rfl ?_
    iterate 3 refine GX.skip rfl rfl ?_
    refine GX.q (.bool false) ?_
    refine GX.m rfl ?_
    refine GX.skip rfl rfl ?_
    refine GX.q (.bool false) ?_
    refine GX.m rfl ?_
    refine GX.skip rfl rfl ?_
    refine GX.q (.bool false) ?_
    refine GX.m rfl ?_
    iterate 4 refine GX.skip rfl rfl ?_
    refine GX.q (.bool false) ?_
    refine GX.m rfl ?_
    refine GX.done ?_
    refine WK.ret ?_
    subst hR
    exact RetQ.fr [] (.inr rfl) rfl rfl rfl rfl
   ·rw [hb21]; try simp only [hb21, bb] at hR
    refine GX.q (.ptr 0 2) ?_
    refine GX.q (.int .i64 c0.Proto) ?_
    generalize hc32 : F26_rib_isIn c0.Proto 0 5 = c32 at hR
    try dsimp only at hR
    refine GX.callp (r := .bool c32) rfl rfl rfl (f26_ok c0.Proto 0 5 _ hc32) rfl rfl ?_
    refine GX.q (.bool c32) ?_
    refine GX.m rfl ?_
    rcases bool_two (c32) with hb22 | hb22
    ·rw [hb22]; try simp only [hb22, bb] at hR
     iterate 3 refine GX.skip rfl rfl ?_
     refine GX.q (.bool false) ?_
     refine GX.m rfl ?_
     iterate 3 refine GX.skip rfl rfl ?_
     refine GX.q (.bool false) ?_
     refine GX.m rfl ?_
     refine GX.skip rfl rfl ?_
     refine GX.q (.bool false) ?_
     refine GX.m rfl ?_
     refine GX.skip rfl rfl ?_
     refine GX.q (.bool false) ?_
     refine GX.m rfl ?_
     iterate 4 refine GX.skip rfl rfl ?_
     refine GX.q (.bool false) ?_
     refine GX.m rfl ?_
     refine GX.done ?_
     refine WK.ret ?_
     subst hR
     exact RetQ.fr [] (.inr rfl) rfl rfl rfl rfl
    ·rw [hb22]; try simp only [hb22, bb] at hR
     refine GX.q (.ptr 0 3) ?_
     refine GX.q (.int .i64 c0.Inst) ?_
     generalize hc37 : F26_rib_isIn c0.Inst 0 99 = c37 at hR
     try dsimp only at hR
     refine GX.callp (r := .bool c37) rfl rfl rfl (f26_ok c0.Inst 0 99 _ hc37) rfl rfl ?_
     refine GX.q (.bool c37) ?_
     refine GX.m rfl ?_
     rcases bool_two (c37) with hb23 | hb23
     ·rw [hb23]; try simp only [hb23, bb] at hR
      iterate 3 refine GX.skip rfl rfl ?_
      refine GX.q (.bool false) ?_
      refine GX.m rfl ?_
      refine GX.skip rfl rfl ?_
      refine GX.q (.bool false) ?_
      refine GX.m rfl ?_
      refine GX.skip rfl rfl ?_
      refine GX.q (.bool false) ?_
      refine GX.m rfl ?_
      iterate 4 refine GX.skip rfl rfl ?_
      refine GX.q (.bool false) ?_
      refine GX.m rfl ?_
      refine GX.done ?_
      refine WK.ret ?_
      subst hR
      exact RetQ.fr [] (.inr rfl) rfl rfl rfl rfl
     ·rw [hb23]; try simp only [hb23, bb] at hR
      refine GX.q (.ptr 0 5) ?_
      refine GX.q (.int .i64 c0.Metric) ?_
      iterate 2 refine GX.q (.bool (decide (0 ≤ c0.Metric))) ?_
      refine GX.m rfl ?_
      rcases bool_two (decide (0 ≤ c0.Metric)) with hb24 | hb24
      ·rw [hb24]; try simp only [hb24, bb] at hR
       refine GX.skip rfl rfl ?_
       refine GX.q (.bool false) ?_
       refine GX.m rfl ?_
       refine GX.skip rfl rfl ?_
       refine GX.q (.bool false) ?_
       refine GX.m rfl ?_
       iterate 4 refine GX.skip rfl rfl ?_
       refine GX.q (.bool false) ?_
       refine GX.m rfl ?_
       refine GX.done ?_
       refine WK.ret ?_
       subst hR
       exact RetQ.fr [] (.inr rfl) rfl rfl rfl rfl
      ·rw [hb24]; try simp only [hb24, bb] at hR
       refine GX.m rfl ?_
       refine GX.q (.bool (decide (c0.Dist = 0))) ?_
       refine GX.m rfl ?_
       rcases bool_two (decide (c0.Dist = 0)) with hb25 | hb25
       ·rw [hb25]; try simp only [hb25, bb] at hR
        refine GX.skip rfl rfl ?_
        refine GX.q (.bool false) ?_
        refine GX.m rfl ?_
        iterate 4 refine GX.skip rfl rfl ?_
        refine GX.q (.bool false) ?_
        refine GX.m rfl ?_
        refine GX.done ?_
        refine WK.ret ?_
        subst hR
        exact RetQ.fr [] (.inr rfl) rfl rfl rfl rfl
       ·rw [hb25]; try simp only [hb25, bb] at hR
        refine GX.m rfl ?_
        refine GX.q (.bool false) ?_
        refine GX.m rfl ?_
        iterate 4 refine GX.skip rfl rfl ?_
        refine GX.q (.bool false) ?_
        refine GX.m rfl ?_
        refine GX.done ?_
        refine WK.ret ?_
        subst hR
        exact RetQ.fr [] (.inr rfl) rfl rfl rfl rfl
  ·rw [hb20]; try simp only [hb20, bb] at hR
   refine GX.q (.ptr 0 7) ?_
   refine GX.q (.bool c0.Leaked) ?_
   refine GX.m rfl ?_
   rcases bool_two (c0.Leaked) with hb26 | hb26
   ·rw [hb26]; try simp only [hb26, bb] at hR
    refine GX.q (.ptr 0 8) ?_
    refine GX.q (.int .i64 c0.From) ?_
    iterate 3 refine GX.q (.bool (decide (c0.From = 0))) ?_
    refine GX.m rfl ?_
    refine GX.done ?_
    refine WK.sr mixed ?_
    refine GX.q (.ptr 0 0) ?_
    refine GX.q (.agg [.int .u32 c0.P.A, .int .i64 c0.P.N]) ?_
    generalize hc28 : F27_addr_May c0.P = c28 at hR
    try dsimp only at hR
    refine GX.callp (r := .bool c28) rfl rfl rfl (f27_ok c0.P _ hc28) rfl rfl ?_
    refine GX.m rfl ?_
    rcases bool_two (c28) with hb27 | hb27
    ·rw [hb27]; try simp only [hb27, bb] at hR
     iterate 3 refine GX.skip rfl rfl ?_
     refine GX.q (.bool false) ?_
     refine GX.m rfl ?_
     iterate 3 refine GX.skip rfl rfl ?_
     refine GX.q (.bool false) ?_
     refine GX.m rfl ?_
     iterate 3 refine GX.skip rfl rfl ?_
     refine GX.q (.bool false) ?_
     refine GX.m rfl ?_
     refine GX.skip rfl rfl ?_
     refine GX.q (.bool false) ?_
     refine GX.m rfl ?_
     refine GX.skip rfl rfl ?_
     refine GX.q (.bool false) ?_
     refine GX.m rfl ?_
     iterate 4 refine GX.skip rfl rfl ?_
     refine GX.q (.bool false) ?_
     refine GX.m rfl ?_
     refine GX.done ?_
     refine WK.ret ?_
     subst hR
     exact RetQ.fr [] (.inr rfl) rfl rfl rfl rfl
    ·rw [hb27]; try simp only [hb27, bb] at hR
     refine GX.q (.ptr 0 2) ?_
     refine GX.q (.int .i64 c0.Proto) ?_
     generalize hc32 : F26_rib_isIn c0.Proto 0 5 = c32 at hR
     try dsimp only at hR
     refine GX.callp (r := .bool c32) rfl rfl rfl (f26_ok c0.Proto 0 5 _ hc32) rfl rfl ?_
     refine GX.q (.bool c32) ?_
     refine GX.m rfl ?_
     rcases bool_two (c32) with hb28 | hb28
     ·rw [hb28]; try simp only [hb28, bb] at hR
      iterate 3 refine GX.skip rfl rfl ?_
      refine GX.q (.bool false) ?_
      refine GX.m rfl ?_
      iterate 3 refine GX.skip rfl rfl ?_
      refine GX.q (.bool false) ?_
      refine GX.m rfl ?_
      refine GX.skip rfl rfl ?_
      refine GX.q (.bool false) ?_
      refine GX.m rfl ?_
      refine GX.skip rfl rfl ?_
      refine GX.q (.bool false) ?_
      refine GX.m rfl ?_
      iterate 4 refine GX.skip rfl rfl ?_
      refine GX.q (.bool false) ?_
      refine GX.m rfl ?_
      refine GX.done ?_
      refine WK.ret ?_
      subst hR
      exact RetQ.fr [] (.inr rfl) rfl rfl rfl rfl
     ·rw [hb28]; try simp only [hb28, bb] at hR
      refine GX.q (.ptr 0 3) ?_
      refine GX.q (.int .i64 c0.Inst) ?_
      generalize hc37 : F26_rib_isIn c0.Inst 0 99 = c37 at hR
      try dsimp only at hR
      refine GX.callp (r := .bool c37) rfl rfl rfl (f26_ok c0.Inst 0 99 _ hc37) rfl rfl ?_
      refine GX.q (.bool c37) ?_
      refine GX.m rfl ?_
      rcases bool_two (c37) with hb29 | hb29
      ·rw [hb29]; try simp only [hb29, bb] at hR
       iterate 3 refine GX.skip rfl rfl ?_
       refine GX.q (.bool false) ?_
       refine GX.m rfl ?_
       refine GX.skip rfl rfl ?_
       refine GX.q (.bool false) ?_
       refine GX.m rfl ?_
       refine GX.skip rfl rfl ?_
       refine GX.q (.bool false) ?_
       refine GX.m rfl ?_
       iterate 4 refine GX.skip rfl rfl ?_
       refine GX.q (.bool false) ?_
       refine GX.m rfl ?_
       refine GX.done ?_
       refine WK.ret ?_
       subst hR
       exact RetQ.fr [] (.inr rfl) rfl rfl rfl rfl
      ·rw [hb29]; try simp only [hb29, bb] at hR
       refine GX.q (.ptr 0 5) ?_
       refine GX.q (.int .i64 c0.Metric) ?_
       iterate 2 refine GX.q (.bool (decide (0 ≤ c0.Metric))) ?_
       refine GX.m rfl ?_
       rcases bool_two (decide (0 ≤ c0.Metric)) with hb30 | hb30
       ·rw [hb30]; try simp only [hb30, bb] at hR
        refine GX.skip rfl rfl ?_
        refine GX.q (.bool false) ?_
        refine GX.m rfl ?_
        refine GX.skip rfl rfl ?_
        refine GX.q (.bool false) ?_
        refine GX.m rfl ?_
        iterate 4 refine GX.skip rfl rfl ?_
        refine GX.q (.bool false) ?_
        refine GX.m rfl ?_
        refine GX.done ?_
        refine WK.ret ?_
        subst hR
        exact RetQ.fr [] (.inr rfl) rfl rfl rfl rfl
       ·rw [hb30]; try simp only [hb30, bb] at hR
        refine GX.m rfl ?_
        refine GX.q (.bool (decide (c0.Dist = 0))) ?_
        refine GX.m rfl ?_
        rcases bool_two (decide (c0.Dist = 0)) with hb31 | hb31
        ·rw [hb31]; try simp only [hb31, bb] at hR
         refine GX.skip rfl rfl ?_
         refine GX.q (.bool false) ?_
         refine GX.m rfl ?_
         iterate 4 refine GX.skip rfl rfl ?_
         refine GX.q (.bool false) ?_
         refine GX.m rfl ?_
         refine GX.done ?_
         refine WK.ret ?_
         subst hR
         exact RetQ.fr [] (.inr rfl) rfl rfl rfl rfl
        ·rw [hb31]; try simp only [hb31, bb] at hR
         refine GX.m rfl ?_
         refine GX.q (.bool (decide (c0.From = 0))) ?_
         refine GX.m rfl ?_
         rcases bool_two (decide (c0.From = 0)) with hb32 | hb32
         ·rw [hb32]; try simp only [hb32, bb] at hR
          iterate 4 refine GX.skip rfl rfl ?_
          refine GX.q (.bool false) ?_
          refine GX.m rfl ?_
          refine GX.done ?_
          refine WK.ret ?_
          subst hR
          exact RetQ.fr [] (.inr rfl) rfl rfl rfl rfl
         ·rw [hb32]; try simp only [hb32, bb] at hR
          refine GX.q (.ptr 0 9) ?_
          refine GX.q (.ro 2 (c0.Hops.map THop.c)) ?_
          refine GX.pure (v' := .int .i64 (c0.Hops.length : Int)) rfl rfl rfl rfl (len_map _ _) ?_
          generalize hc54 : F26_rib_isIn (c0.Hops.length : Int) 1 8 = c54 at hR
          try dsimp only at hR
          refine GX.callp (r := .bool c54) rfl rfl rfl (f26_ok (c0.Hops.length : Int) 1 8 _ hc54) rfl rfl ?_
          refine GX.q (.bool c54) ?_
          refine GX.m rfl ?_
          refine GX.done ?_
          refine WK.ret ?_
          subst hR
          exact RetQ.fr [] (.inr rfl) rfl rfl rfl rfl
   ·rw [hb26]; try simp only [hb26, bb] at hR
    iterate 3 refine GX.skip rfl rfl ?_
    iterate 2 refine GX.q (.bool true) ?_
    refine GX.m rfl ?_
    refine GX.done ?_
    refine WK.sr mixed ?_
    refine GX.q (.ptr 0 0) ?_
    refine GX.q (.agg [.int .u32 c0.P.A, .int .i64 c0.P.N]) ?_
    generalize hc28 : F27_addr_May c0.P = c28 at hR
    try dsimp only at hR
    refine GX.callp (r := .bool c28) rfl rfl rfl (f27_ok c0.P _ hc28) rfl rfl ?_
    refine GX.m rfl ?_
    rcases bool_two (c28) with hb33 | hb33
    ·rw [hb33]; try simp only [hb33, bb] at hR
     iterate 3 refine GX.skip rfl rfl ?_
     refine GX.q (.bool false) ?_
     refine GX.m rfl ?_
     iterate 3 refine GX.skip rfl rfl ?_
     refine GX.q (.bool false) ?_
     refine GX.m rfl ?_
     iterate 3 refine GX.skip rfl rfl ?_
     refine GX.q (.bool false) ?_
     refine GX.m rfl ?_
     refine GX.skip rfl rfl ?_
     refine GX.q (.bool false) ?_
     refine GX.m rfl ?_
     refine GX.skip rfl rfl ?_
     refine GX.q (.bool false) ?_
     refine GX.m rfl ?_
     iterate 4 refine GX.skip rfl rfl ?_
     refine GX.q (.bool false) ?_
     refine GX.m rfl ?_
     refine GX.done ?_
     refine WK.ret ?_
     subst hR
     exact RetQ.fr [] (.inr rfl) rfl rfl rfl rfl
    ·rw [hb33]; try simp only [hb33, bb] at hR
     refine GX.q (.ptr 0 2) ?_
     refine GX.q (.int .i64 c0.Proto) ?_
     generalize hc32 : F26_rib_isIn c0.Proto 0 5 = c32 at hR
     try dsimp only at hR
     refine GX.callp (r := .bool c32) rfl rfl rfl (f26_ok c0.Proto 0 5 _ hc32) rfl rfl ?_
     refine GX.q (.bool c32) ?_
     refine GX.m rfl ?_
     rcases bool_two (c32) with hb34 | hb34
     ·rw [hb34]; try simp only [hb34, bb] at hR
      iterate 3 refine GX.skip rfl rfl ?_
      refine GX.q (.bool false) ?_
      refine GX.m rfl ?_
      iterate 3 refine GX.skip rfl rfl ?_
      refine GX.q (.bool false) ?_
      refine GX.m rfl ?_
      refine GX.skip rfl rfl ?_
      refine GX.q (.bool false) ?_
      refine GX.m rfl ?_
      refine GX.skip rfl rfl ?_
      refine GX.q (.bool false) ?_
      refine GX.m rfl ?_
      iterate 4 refine GX.skip rfl rfl ?_
      refine GX.q (.bool false) ?_
      refine GX.m rfl ?_
      refine GX.done ?_
      refine WK.ret ?_
      subst hR
      exact RetQ.fr [] (.inr rfl) rfl rfl rfl rfl
     ·rw [hb34]; try simp only [hb34, bb] at hR
      refine GX.q (.ptr 0 3) ?_
      refine GX.q (.int .i64 c0.Inst) ?_
      generalize hc37 : F26_rib_isIn c0.Inst 0 99 = c37 at hR
      try dsimp only at hR
      refine GX.callp (r := .bool c37) rfl rfl rfl (f26_ok c0.Inst 0 99 _ hc37) rfl rfl ?_
      refine GX.q (.bool c37) ?_
      refine GX.m rfl ?_
      rcases bool_two (c37) with hb35 | hb35
      ·rw [hb35]; try simp only [hb35, bb] at hR
       iterate 3 refine GX.skip rfl rfl ?_
       refine GX.q (.bool false) ?_
       refine GX.m rfl ?_
       refine GX.skip rfl rfl ?_
       refine GX.q (.bool false) ?_
       refine GX.m rfl ?_
       refine GX.skip rfl rfl ?_
       refine GX.q (.bool false) ?_
       refine GX.m rfl ?_
       iterate 4 refine GX.skip rfl rfl ?_
       refine GX.q (.bool false) ?_
       refine GX.m rfl ?_
       refine GX.done ?_
       refine WK.ret ?_
       subst hR
       exact RetQ.fr [] (.inr rfl) rfl rfl rfl rfl
      ·rw [hb35]; try simp only [hb35, bb] at hR
       refine GX.q (.ptr 0 5) ?_
       refine GX.q (.int .i64 c0.Metric) ?_
       iterate 2 refine GX.q (.bool (decide (0 ≤ c0.Metric))) ?_
       refine GX.m rfl ?_
       rcases bool_two (decide (0 ≤ c0.Metric)) with hb36 | hb36
       ·rw [hb36]; try simp only [hb36, bb] at hR
        refine GX.skip rfl rfl ?_
        refine GX.q (.bool false) ?_
        refine GX.m rfl ?_
        refine GX.skip rfl rfl ?_
        refine GX.q (.bool false) ?_
        refine GX.m rfl ?_
        iterate 4 refine GX.skip rfl rfl ?_
        refine GX.q (.bool false) ?_
        refine GX.m rfl ?_
        refine GX.done ?_
        refine WK.ret ?_
        subst hR
        exact RetQ.fr [] (.inr rfl) rfl rfl rfl rfl
       ·rw [hb36]; try simp only [hb36, bb] at hR
        refine GX.m rfl ?_
        refine GX.q (.bool (decide (c0.Dist = 0))) ?_
        refine GX.m rfl ?_
        rcases bool_two (decide (c0.Dist = 0)) with hb37 | hb37
        ·rw [hb37]; try simp only [hb37, bb] at hR
         refine GX.skip rfl rfl ?_
         refine GX.q (.bool false) ?_
         refine GX.m rfl ?_
         iterate 4 refine GX.skip rfl rfl ?_
         refine GX.q (.bool false) ?_
         refine GX.m rfl ?_
         refine GX.done ?_
         refine WK.ret ?_
         subst hR
         exact RetQ.fr [] (.inr rfl) rfl rfl rfl rfl
        ·rw [hb37]; try simp only [hb37, bb] at hR
         refine GX.m rfl ?_
         refine GX.q (.bool true) ?_
         refine GX.m rfl ?_
         refine GX.q (.ptr 0 9) ?_
         refine GX.q (.ro 2 (c0.Hops.map THop.c)) ?_
         refine GX.pure (v' := .int .i64 (c0.Hops.length : Int)) rfl rfl rfl rfl (len_map _ _) ?_
         generalize hc54 : F26_rib_isIn (c0.Hops.length : Int) 1 8 = c54 at hR
         try dsimp only at hR
         refine GX.callp (r := .bool c54) rfl rfl rfl (f26_ok (c0.Hops.length : Int) 1 8 _ hc54) rfl rfl ?_
         refine GX.q (.bool c54) ?_
         refine GX.m rfl ?_
         refine GX.done ?_
         refine WK.ret ?_
         subst hR
         exact RetQ.fr [] (.inr rfl) rfl rfl rfl rfl

theorem f56_ok (x0 : Int) (R : Bool) (hR : F56_cmp_isNaN x0 = R) : FnOk Try.prog 56 [.int .u32 x0] [] 0 (.bool R) [] 0 := by
 refine FnOk.wk i56 rfl rfl ?_
 unfold F56_cmp_isNaN at hR
 change WK _ _ _ [ac56] _ ⟨[(0, .int .u32 x0)], [], 0⟩
 unfold ac56
 refine WK.sr mixed ?_
 refine GX.m rfl ?_
 refine GX.done ?_
 refine WK.sr mixed ?_
 iterate 2 refine GX.m rfl ?_
 refine GX.q (.bool (!decide (x0 = x0))) ?_
 refine GX.m rfl ?_
 refine GX.done ?_
 refine WK.ret ?_
 subst hR
 exact RetQ.fr [] (.inr rfl) rfl rfl rfl rfl

theorem f49_ok (x0 : Int) (y1 : Int) (R : Int) (hR : F49_cmp_Compare x0 y1 = R) : FnOk Try.prog 49 [.int .u32 x0, .int .u32 y1] [] 0 (.int .i64 R) [] 0 := by
 refine FnOk.wk i49 rfl rfl ?_
 unfold F49_cmp_Compare at hR
 change WK _ _ _ [ac49] _ ⟨[(0, .int .u32 x0), (1, .int .u32 y1)], [], 0⟩
 unfold ac49
 refine WK.sr mixed ?_
 refine GX.m rfl ?_
 refine GX.done ?_
 refine WK.sr mixed ?_
 refine GX.m rfl ?_
 generalize hc8 : F56_cmp_isNaN x0 = c8 at hR
 try dsimp only at hR
 refine GX.callp (r := .bool c8) rfl rfl rfl (f56_ok x0 _ hc8) rfl rfl ?_
 refine GX.m rfl ?_
 refine GX.done ?_
 refine WK.sr mixed ?_
 refine GX.m rfl ?_
 generalize hc10 : F56_cmp_isNaN y1 = c10 at hR
 try dsimp only at hR
 refine GX.callp (r := .bool c10) rfl rfl rfl (f56_ok y1 _ hc10) rfl rfl ?_
 refine GX.m rfl ?_
 refine GX.done ?_
 refine WK.seq ?_
 refine WK.sr mixed ?_
 refine GX.m rfl ?_
 refine GX.done ?_
 rcases bool_two (c8) with hb1 | hb1
 ·rw [hb1]; try simp only [hb1, bb] at hR
  refine WK.condF rfl ?_
  refine WK.skip ?_
  refine WK.seq ?_
  refine WK.sr mixed ?_
  refine GX.m rfl ?_
  refine GX.done ?_
  rcases bool_two (c10) with hb2 | hb2
  ·rw [hb2]; try simp only [hb2, bb] at hR
   refine WK.condF rfl ?_
   refine WK.skip ?_
   refine WK.seq ?_
   refine WK.sr mixed ?_
   iterate 2 refine GX.m rfl ?_
   refine GX.q (.bool (decide (x0 < y1))) ?_
   refine GX.done ?_
   rcases bool_two (decide (x0 < y1)) with hb3 | hb3
   ·rw [hb3]; try simp only [hb3, bb] at hR
    refine WK.condF rfl ?_
    refine WK.skip ?_
    refine WK.seq ?_
    refine WK.sr mixed ?_
    iterate 2 refine GX.m rfl ?_
    refine GX.q (.bool (decide (y1 < x0))) ?_
    refine GX.done ?_
    rcases bool_two (decide (y1 < x0)) with hb4 | hb4
    ·rw [hb4]; try simp only [hb4, bb] at hR
     refine WK.condF rfl ?_
     refine WK.skip ?_
     refine WK.sr mixed ?_
     refine GX.m rfl ?_
     refine GX.done ?_
     refine WK.ret ?_
     subst hR
     exact RetQ.fr [] (.inr rfl) rfl rfl rfl rfl
    ·rw [hb4]; try simp only [hb4, bb] at hR
     refine WK.condT rfl ?_
     refine WK.sr mixed ?_
     refine GX.m rfl ?_
     refine GX.done ?_
     refine WK.ret ?_
     subst hR
     exact RetQ.fr [] (.inr rfl) rfl rfl rfl rfl
   ·rw [hb3]; try simp only [hb3, bb] at hR
    refine WK.condT rfl ?_
    refine WK.sr mixed ?_
    refine GX.m rfl ?_
    refine GX.done ?_
    refine WK.ret ?_
    subst hR
    exact RetQ.fr [] (.inr rfl) rfl rfl rfl rfl
  ·rw [hb2]; try simp only [hb2, bb] at hR
   refine WK.condT rfl ?_
   refine WK.sr mixed ?_
   refine GX.m rfl ?_
   refine GX.done ?_
   refine WK.ret ?_
   subst hR
   exact RetQ.fr [] (.inr rfl) rfl rfl rfl rfl
 ·rw [hb1]; try simp only [hb1, bb] at hR
  refine WK.condT rfl ?_
  refine WK.seq ?_
  refine WK.sr mixed ?_
  refine GX.m rfl ?_
  refine GX.done ?_
  rcases bool_two (c10) with hb5 | hb5
  ·rw [hb5]; try simp only [hb5, bb] at hR
   refine WK.condF rfl ?_
   refine WK.skip ?_
   refine WK.sr mixed ?_
   refine GX.m rfl ?_
   refine GX.done ?_
   refine WK.ret ?_
   subst hR
   exact RetQ.fr [] (.inr rfl) rfl rfl rfl rfl
  ·rw [hb5]; try simp only [hb5, bb] at hR
   refine WK.condT rfl ?_
   refine WK.sr mixed ?_
   refine GX.m rfl ?_
   refine GX.done ?_
   refine WK.ret ?_
   subst hR
   exact RetQ.fr [] (.inr rfl) rfl rfl rfl rfl

theorem f31_ok (a0 : TCand) (b1 : TCand) (R : Int) (hR : F31_rib_byKey a0 b1 = R) : FnOk Try.prog 31 [.agg (TCand.c a0), .agg (TCand.c b1)] [] 0 (.int .i64 R) [] 0 := by
 refine FnOk.wk i31 rfl rfl ?_
 unfold F31_rib_byKey at hR
 change WK _ _ _ [ac31] _ ⟨[(0, .agg (TCand.c a0)), (1, .agg (TCand.c b1))], [], 0⟩
 unfold ac31
 refine WK.sr mixed ?_
 refine GX.step (v' := .ptr 0 0) (heap' := [(0, .box (TCand.c a0))]) (next' := 1) rfl rfl rfl rfl rfl rfl rfl ?_
 refine GX.step (v' := .ptr 1 0) (heap' := [(0, .box (TCand.c a0)), (1, .box (TCand.c b1))]) (next' := 2) rfl rfl rfl rfl rfl rfl rfl ?_
 refine GX.m rfl ?_
 refine GX.done ?_
 refine WK.seq ?_
 refine WK.drawn mixed ?_
 iterate 2 refine RD.q (.ptr 0 0) ?_
 refine RD.q (.int .u32 a0.P.A) ?_
 iterate 2 refine RD.q (.ptr 1 0) ?_
 refine RD.q (.int .u32 b1.P.A) ?_
 generalize hc11 : F49_cmp_Compare a0.P.A b1.P.A = c11 at hR
 try dsimp only at hR
 refine RD.callp (r := .int .i64 c11) rfl rfl rfl (f49_ok a0.P.A b1.P.A _ hc11) rfl rfl ?_
 refine RD.q (.ptr 0 0) ?_
 refine RD.q (.ptr 0 1) ?_
 refine RD.q (.int .i64 a0.P.N) ?_
 refine RD.q (.ptr 1 0) ?_
 refine RD.q (.ptr 1 1) ?_
 refine RD.q (.int .i64 b1.P.N) ?_
 generalize hc18 : F50_cmp_Compare a0.P.N b1.P.N = c18 at hR
 try dsimp only at hR
 refine RD.callp (r := .int .i64 c18) rfl rfl rfl (f50_ok a0.P.N b1.P.N _ hc18) rfl rfl ?_
 refine RD.q (.agg (TCand.c a0)) ?_
 generalize hc20 : F51_rib_Cand_leaked a0 = c20 at hR
 try dsimp only at hR
 refine RD.callp (r := .int .i64 c20) rfl rfl rfl (f51_ok a0 _ hc20) rfl rfl ?_
 refine RD.q (.agg (TCand.c b1)) ?_
 generalize hc22 : F51_rib_Cand_leaked b1 = c22 at hR
 try dsimp only at hR
 refine RD.callp (r := .int .i64 c22) rfl rfl rfl (f51_ok b1 _ hc22) rfl rfl ?_
 refine RD.q (.int .i64 (IntKind.i64.wrap (c20 - c22))) ?_
 refine RD.q (.ptr 0 8) ?_
 refine RD.q (.int .i64 a0.From) ?_
 refine RD.q (.ptr 1 8) ?_
 refine RD.q (.int .i64 b1.From) ?_
 generalize hc28 : F50_cmp_Compare a0.From b1.From = c28 at hR
 try dsimp only at hR
 refine RD.callp (r := .int .i64 c28) rfl rfl rfl (f50_ok a0.From b1.From _ hc28) rfl rfl ?_
 refine RD.q (.ptr 0 2) ?_
 refine RD.q (.int .i64 a0.Proto) ?_
 refine RD.q (.ptr 1 2) ?_
 refine RD.q (.int .i64 b1.Proto) ?_
 generalize hc33 : F50_cmp_Compare a0.Proto b1.Proto = c33 at hR
 try dsimp only at hR
 refine RD.callp (r := .int .i64 c33) rfl rfl rfl (f50_ok a0.Proto b1.Proto _ hc33) rfl rfl ?_
 refine RD.q (.ptr 0 3) ?_
 refine RD.q (.int .i64 a0.Inst) ?_
 refine RD.q (.ptr 1 3) ?_
 refine RD.q (.int .i64 b1.Inst) ?_
 generalize hc38 : F50_cmp_Compare a0.Inst b1.Inst = c38 at hR
 try dsimp only at hR
 refine RD.callp (r := .int .i64 c38) rfl rfl rfl (f50_ok a0.Inst b1.Inst _ hc38) rfl rfl ?_
 refine RD.step (v' := .own 2 1 0 (([c11, c18, IntKind.i64.wrap (c20 - c22), c28, c33, c38] : List Int)).length) (heap' := [(0, .box (TCand.c a0)), (1, .box (TCand.c b1)), (2, .row 1 3 (([c11, c18, IntKind.i64.wrap (c20 - c22), c28, c33, c38] : List Int).map c_i64))]) (next' := 3) rfl rfl rfl rfl rfl rfl rfl ?_
 generalize hc40 : F48_cmp_Or ([c11, c18, IntKind.i64.wrap (c20 - c22), c28, c33, c38] : List Int) = c40 at hR
 try dsimp only at hR
 refine RD.callbp (r := .int .i64 c40) [2] rfl rfl rfl (viewGo_cons (view_rowT rfl rfl) viewGo_nil) (f48_ok ([c11, c18, IntKind.i64.wrap (c20 - c22), c28, c33, c38] : List Int) _ hc40) rfl rfl ?_
 refine RD.m rfl ?_
 refine RD.doneB [0, 1, 3, 0, 8, 24, 63, 0, 128, 384, 0, 1024, 3072, 8191, 0, 32767, 0, 131071, 262143, 0, 524288, 0, 2097152, 8126463, 0, 16777216, 0, 67108864, 268173311, 0, 536870912, 0, 2147483648, 8589672447, 17179869183, 34359738367, 68719476735] (by kernel_rfl) (by kernel_rfl) (by kernel_rfl) ?_
 refine WK.ret ?_
 subst hR
 exact RetQ.fr [] (.inr rfl) rfl rfl rfl rfl

theorem f43_ok (x0 : List TCand) (target1 : TCand) (gcmp2 : FuncId) (gcmp2f gcmp2c : List PVal) (hcmp2 : TCand → TCand → Int) (gcmp2k : PVal.closed.go gcmp2f = true ∧ PVal.closed.go gcmp2c = true) (gcmp2o : ∀ (y0 : TCand) (y1 : TCand) (R : Int), hcmp2 y0 y1 = R → FnOk Try.prog gcmp2 (gcmp2f ++ [.agg (TCand.c y0), .agg (TCand.c y1)] ++ gcmp2c) [] 0 (.int .i64 R) [] 0) (R : Int × Bool) (hR : F43_slices_BinarySearchFunc x0 target1 hcmp2 = some R) : FnOk Try.prog 43 [.ro 10 (x0.map TCand.c), .agg (TCand.c target1), .fn gcmp2 gcmp2f gcmp2c] [] 0 (.tup [.int .i64 R.1, .bool R.2]) [] 0 := by
 refine FnOk.wk i43 rfl rfl ?_
 unfold F43_slices_BinarySearchFunc at hR
 try dsimp only at hR
 change WK _ _ _ [ac43] _ ⟨[(0, .ro 10 (x0.map TCand.c)), (1, .agg (TCand.c target1)), (2, .fn gcmp2 gcmp2f gcmp2c)], [], 0⟩
 unfold ac43
 refine WK.sr mixed ?_
 refine GX.step (v' := .ptr 0 0) (heap' := [(0, .box (TCand.c target1))]) (next' := 1) rfl rfl rfl rfl rfl rfl rfl ?_
 iterate 2 refine GX.m rfl ?_
 refine GX.done ?_
 refine WK.sr mixed ?_
 refine GX.m rfl ?_
 refine GX.pure (v' := .int .i64 (x0.length : Int)) rfl rfl rfl rfl (len_map _ _) ?_
 refine GX.m rfl ?_
 refine GX.done ?_
 refine WK.sr mixed ?_
 iterate 3 refine GX.m rfl ?_
 refine GX.done ?_
 refine WK.seq ?_
 refine WK.len (t := 0) rfl (by simp) (fun hln0_13 => ?_)
 rw [List.length_map] at hln0_13
 generalize hZ_13 : F43_slices_BinarySearchFunc_l1 x0 target1 hcmp2 100 0 (x0.length : Int) = Z_13 at hR
 refine WK.forK (fun k s => ∃ (i9 : Int) (j10 : Int), F43_slices_BinarySearchFunc_l1 x0 target1 hcmp2 k i9 j10 = Z_13 ∧ s = ⟨[(0, .ro 10 (x0.map TCand.c)), (2, .fn gcmp2 gcmp2f gcmp2c), (4, .ptr 0 0), (8, .int .i64 (x0.length : Int)), (9, .int .i64 i9), (10, .int .i64 j10)], [(0, .box (TCand.c target1))], 1⟩) 100 ⟨⟨[(0, .ro 10 (x0.map TCand.c)), (2, .fn gcmp2 gcmp2f gcmp2c), (4, .ptr 0 0), (8, .int .i64 (x0.length : Int)), (9, .int .i64 0), (10, .int .i64 (x0.length : Int))], [(0, .box (TCand.c target1))], 1⟩, Conv.keep [0] [] [0, 2, 4, 8, 9, 10] rfl rfl (viewE_cons rfl rfl (viewE_cons rfl (viewP_fnc gcmp2k) (viewE_cons rfl rfl (viewE_cons rfl rfl (viewE_cons rfl rfl (viewE_cons rfl rfl viewE_nil)))))) rfl rfl, 0, (x0.length : Int), hZ_13, rfl⟩ ?_
 rintro k13 _ ⟨i9, j10, hL_13, rfl⟩ again_13 out_13 Q_13 hagain_13 hout_13 hQ_13
 rcases k13 with _ | f13
 ·unfold F43_slices_BinarySearchFunc_l1 at hL_13
  try dsimp only at hL_13
  subst hL_13
  try dsimp only at hR
  cases hR
 unfold F43_slices_BinarySearchFunc_l1 at hL_13; try dsimp only at hL_13
 refine WK.seq ?_
 refine WK.sr mixed ?_
 iterate 2 refine GX.m rfl ?_
 refine GX.q (.bool (decide (i9 < j10))) ?_
 refine GX.done ?_
 rcases bool_two (decide (i9 < j10)) with hb14 | hb14
 ·rw [hb14]; try simp only [hb14, bb] at hL_13
  refine WK.condF rfl ?_
  refine WK.exit ?_
  refine QF.exit (hout_13 _ ?_)
  subst hL_13
  try dsimp only [cond_true, cond_false] at hR
  refine WK.seq ?_
  refine WK.drawn mixed ?_
  iterate 3 refine RD.m rfl ?_
  refine RD.q (.bool (decide (i9 < (x0.length : Int)))) ?_
  refine RD.m rfl ?_
  rcases bool_two (decide (i9 < (x0.length : Int))) with hb15 | hb15
  ·rw [hb15]; first | replace hR := cond_f hb15 hR | (try simp only [hb15, bb] at hR)
   iterate 8 refine RD.skip rfl rfl ?_
   refine RD.q (.bool false) ?_
   iterate 2 refine RD.m rfl ?_
   refine RD.done rfl ?_
   refine WK.ret ?_
   obtain rfl := Option.some.inj hR
   exact RetQ.fr [] (.inr rfl) rfl rfl rfl rfl
  ·rw [hb15]; first | replace hR := cond_t hb15 hR | (try simp only [hb15, bb] at hR)
   iterate 3 refine RD.m rfl ?_
   generalize hx915 : getI x0 i9 = x915 at hR
   rcases x915 with _ | x915
   ·try dsimp only at hR
    cases hR
   try dsimp only at hR
   obtain ⟨hx9150, hx915j, hx915l, hx915⟩ := getI_some hx915
   refine RD.idxT (c := TCand.c) (x := x915) rfl rfl rfl hx9150 hx915 ?_
   refine RD.q (.agg (TCand.c x915)) ?_
   refine RD.q (.agg (TCand.c target1)) ?_
   generalize hc46 : hcmp2 x915 target1 = c46 at hR
   try dsimp only at hR
   refine RD.callvp (r := .int .i64 c46) rfl rfl rfl (gcmp2o x915 target1 _ hc46) (closed3 gcmp2k.1 rfl gcmp2k.2) rfl ?_
   iterate 2 refine RD.q (.bool (decide (c46 = 0))) ?_
   iterate 2 refine RD.m rfl ?_
   refine RD.done rfl ?_
   refine WK.ret ?_
   obtain rfl := Option.some.inj hR
   exact RetQ.fr [] (.inr rfl) rfl rfl rfl rfl
 ·rw [hb14]; try simp only [hb14, bb] at hL_13
  refine WK.condT rfl ?_
  refine WK.skip ?_
  refine WK.blockK (fun _ hK17 => ?_)
  refine WK.sr mixed ?_
  iterate 2 refine GX.m rfl ?_
  refine GX.q (.int .i64 (IntKind.i64.wrap (i9 + j10))) ?_
  refine GX.q (.int .u64 (IntKind.u64.wrap (IntKind.i64.wrap (i9 + j10)))) ?_
  refine GX.q (.int .u64 (Int.fdiv (IntKind.u64.wrap (IntKind.i64.wrap (i9 + j10))) (2 ^ 1))) ?_
  refine GX.q (.int .i64 (IntKind.i64.wrap (Int.fdiv (IntKind.u64.wrap (IntKind.i64.wrap (i9 + j10))) (2 ^ 1)))) ?_
  refine GX.m rfl ?_
  refine GX.done ?_
  refine WK.seq ?_
  refine WK.drawn mixed ?_
  iterate 3 refine RD.m rfl ?_
  generalize hx917 : getI x0 (IntKind.i64.wrap (Int.fdiv (IntKind.u64.wrap (IntKind.i64.wrap (i9 + j10))) (2 ^ 1))) = x917 at hL_13
  rcases x917 with _ | x917
  ·try dsimp only at hL_13
   subst hL_13
   try dsimp only at hR
   cases hR
  try dsimp only at hL_13
  obtain ⟨hx9170, hx917j, hx917l, hx917⟩ := getI_some hx917
  refine RD.idxT (c := TCand.c) (x := x917) rfl rfl rfl hx9170 hx917 ?_
  refine RD.q (.agg (TCand.c x917)) ?_
  refine RD.q (.agg (TCand.c target1)) ?_
  generalize hc30 : hcmp2 x917 target1 = c30 at hL_13
  try dsimp only at hL_13
  refine RD.callvp (r := .int .i64 c30) rfl rfl rfl (gcmp2o x917 target1 _ hc30) (closed3 gcmp2k.1 rfl gcmp2k.2) rfl ?_
  refine RD.q (.bool (decide (c30 < 0))) ?_
  refine RD.done rfl ?_
  rcases bool_two (decide (c30 < 0)) with hb19 | hb19
  ·rw [hb19]; try simp only [hb19, bb] at hL_13
   refine WK.condF rfl ?_
   refine WK.regx mixed ?_
   iterate 2 refine GX.m rfl ?_
   refine GX.done ?_
   refine WK.nil (QF.normal (hK17 _ ?_))
   refine WK.nil (QF.normal ?_)
   exact hagain_13 _ f13 ⟨[(0, .ro 10 (x0.map TCand.c)), (2, .fn gcmp2 gcmp2f gcmp2c), (4, .ptr 0 0), (8, .int .i64 (x0.length : Int)), (9, .int .i64 i9), (10, .int .i64 (IntKind.i64.wrap (Int.fdiv (IntKind.u64.wrap (IntKind.i64.wrap (i9 + j10))) (2 ^ 1))))], [(0, .box (TCand.c target1))], 1⟩ (Nat.lt_succ_self _) (Conv.keep [0] [] [0, 2, 4, 8, 9, 10] rfl rfl (viewE_cons rfl rfl (viewE_cons rfl (viewP_fnc gcmp2k) (viewE_cons rfl rfl (viewE_cons rfl rfl (viewE_cons rfl rfl (viewE_cons rfl rfl viewE_nil)))))) rfl rfl) ⟨i9, (IntKind.i64.wrap (Int.fdiv (IntKind.u64.wrap (IntKind.i64.wrap (i9 + j10))) (2 ^ 1))), hL_13, rfl⟩
  ·rw [hb19]; try simp only [hb19, bb] at hL_13
   refine WK.condT rfl ?_
   refine WK.regx mixed ?_
   refine GX.m rfl ?_
   refine GX.q (.int .i64 (IntKind.i64.wrap ((IntKind.i64.wrap (Int.fdiv (IntKind.u64.wrap (IntKind.i64.wrap (i9 + j10))) (2 ^ 1))) + 1))) ?_
   refine GX.m rfl ?_
   refine GX.done ?_
   refine WK.nil (QF.normal (hK17 _ ?_))
   refine WK.nil (QF.normal ?_)
   exact hagain_13 _ f13 ⟨[(0, .ro 10 (x0.map TCand.c)), (2, .fn gcmp2 gcmp2f gcmp2c), (4, .ptr 0 0), (8, .int .i64 (x0.length : Int)), (9, .int .i64 (IntKind.i64.wrap ((IntKind.i64.wrap (Int.fdiv (IntKind.u64.wrap (IntKind.i64.wrap (i9 + j10))) (2 ^ 1))) + 1))), (10, .int .i64 j10)], [(0, .box (TCand.c target1))], 1⟩ (Nat.lt_succ_self _) (Conv.keep [0] [] [0, 2, 4, 8, 9, 10] rfl rfl (viewE_cons rfl rfl (viewE_cons rfl (viewP_fnc gcmp2k) (viewE_cons rfl rfl (viewE_cons rfl rfl (viewE_cons rfl rfl (viewE_cons rfl rfl viewE_nil)))))) rfl rfl) ⟨(IntKind.i64.wrap ((IntKind.i64.wrap (Int.fdiv (IntKind.u64.wrap (IntKind.i64.wrap (i9 + j10))) (2 ^ 1))) + 1)), j10, hL_13, rfl⟩

theorem f23_ok (t0 : TTable) (c1 : TCand) (R : TTable × Int) (hR : F23_rib_Put t0 c1 = some R) : FnOk Try.prog 23 [.agg (TTable.c t0), .agg (TCand.c c1)] [] 0 (.tup [.agg (TTable.c R.1), .int .i64 R.2]) [] 0 := by
 refine FnOk.wk i23 rfl rfl ?_
 unfold F23_rib_Put at hR
 try dsimp only at hR
 change WK _ _ _ [ac23] _ ⟨[(0, .agg (TTable.c t0)), (1, .agg (TCand.c c1))], [], 0⟩
 unfold ac23
 refine WK.sr mixed ?_
 refine GX.step (v' := .ptr 0 0) (heap' := [(0, .box (TTable.c t0))]) (next' := 1) rfl rfl rfl rfl rfl rfl rfl ?_
 refine GX.step (v' := .ptr 1 0) (heap' := [(0, .box (TTable.c t0)), (1, .box (TCand.c c1))]) (next' := 2) rfl rfl rfl rfl rfl rfl rfl ?_
 refine GX.step (v' := .ptr 2 0) (heap' := [(0, .box (TTable.c t0)), (1, .box (TCand.c c1)), (2, .box [.nils])]) (next' := 3) rfl rfl rfl rfl rfl rfl rfl ?_
 refine GX.m rfl ?_
 refine GX.done ?_
 refine WK.seq ?_
 refine WK.sr mixed ?_
 refine GX.q (.agg (TCand.c c1)) ?_
 generalize hc10 : F8_rib_May c1 = c10 at hR
 try dsimp only at hR
 refine GX.callp (r := .bool c10) rfl rfl rfl (f8_ok c1 _ hc10) rfl rfl ?_
 refine GX.q (.bool (!c10)) ?_
 refine GX.done ?_
 rcases bool_two (c10) with hb1 | hb1
 ·rw [hb1]; first | replace hR := cond_f hb1 hR | (try simp only [hb1, bb] at hR)
  refine WK.condT rfl ?_
  refine WK.sr mixed ?_
  refine GX.q (.agg (TTable.c t0)) ?_
  refine GX.step0 (heap' := [(0, .box (TTable.c t0)), (1, .box (TCand.c c1)), (2, .box (TTable.c t0))]) (next' := 3) rfl rfl rfl rfl rfl ?_
  refine GX.m rfl ?_
  refine GX.done ?_
  refine WK.ret ?_
  obtain rfl := Option.some.inj hR
  exact RetQ.fr [] (.inr rfl) rfl rfl rfl rfl
 ·rw [hb1]; first | replace hR := cond_t hb1 hR | (try simp only [hb1, bb] at hR)
  refine WK.condF rfl ?_
  refine WK.skip ?_
  refine WK.sr mixed ?_
  refine GX.q (.ptr 0 0) ?_
  refine GX.q (.ro 10 (t0.L.map TCand.c)) ?_
  refine GX.q (.agg (TCand.c c1)) ?_
  generalize hc17 : F43_slices_BinarySearchFunc t0.L c1 (fun y0 y1 => F31_rib_byKey y0 y1) = c17 at hR
  rcases c17 with _ | c17
  ·try dsimp only at hR
   cases hR
  try dsimp only at hR
  obtain ⟨c17a, c17b⟩ := c17; try dsimp only at hR
  refine GX.callp (r := .tup [.int .i64 c17a, .bool c17b]) rfl rfl rfl (f43_ok t0.L c1 31 [] [] (fun y0 y1 => F31_rib_byKey y0 y1) ⟨rfl, rfl⟩ (fun y0 y1 _ hr => f31_ok y0 y1 _ hr) _ hc17) rfl rfl ?_
  refine GX.m rfl ?_
  refine GX.q (.int .i64 c17a) ?_
  refine GX.q (.bool c17b) ?_
  iterate 2 refine GX.m rfl ?_
  refine GX.done ?_
  refine WK.sr mixed ?_
  refine GX.q (.ptr 0 0) ?_
  refine GX.q (.ro 10 (t0.L.map TCand.c)) ?_
  rcases bool_two (decide (t0.L.length < 1099511627776)) with hg2 | hg2
  ·simp only [hg2, bb] at hR
   try dsimp only at hR
   cases hR
  simp only [hg2, bb] at hR
  have hg2_ := of_decide_eq_true hg2
  refine GX.callx (r' := .own 3 10 0 t0.L.length) (heap' := [(0, .box (TTable.c t0)), (1, .box (TCand.c c1)), (2, .box [.nils]), (3, .row 10 28 (t0.L.map TCand.c))]) (next' := 4) [] [] rfl rfl rfl rfl rfl rfl (clone_okT (c := TCand.c) mixed i44 t0.L (by decide) (by omega) (by omega)) (.inl rfl) rfl rfl rfl ?_
  refine GX.m rfl ?_
  refine GX.done ?_
  refine WK.seq ?_
  refine WK.blockK (fun _ hK3 => ?_)
  refine WK.sr mixed ?_
  iterate 2 refine GX.m rfl ?_
  refine GX.done ?_
  rcases bool_two (c17b) with hb4 | hb4
  ·rw [hb4]; first | replace hR := cond_f hb4 hR | (try simp only [hb4, bb] at hR)
   refine WK.condF rfl ?_
   refine WK.sr mixed ?_
   refine GX.m rfl ?_
   refine GX.q (.int .i64 (t0.L.length : Int)) ?_
   refine GX.q (.bool (decide (500 ≤ (t0.L.length : Int)))) ?_
   refine GX.m rfl ?_
   refine GX.done ?_
   rcases bool_two (decide (500 ≤ (t0.L.length : Int))) with hb5 | hb5
   ·rw [hb5]; first | replace hR := cond_f hb5 hR | (try simp only [hb5, bb] at hR)
    refine WK.condF rfl ?_
    refine WK.regx mixed ?_
    iterate 2 refine GX.m rfl ?_
    refine GX.q (.agg (TCand.c c1)) ?_
    refine GX.step (v' := .own 4 10 0 (([c1] : List TCand)).length) (heap' := [(0, .box (TTable.c t0)), (1, .box (TCand.c c1)), (2, .box [.nils]), (3, .row 10 28 (t0.L.map TCand.c)), (4, .row 10 28 (([c1] : List TCand).map TCand.c))]) (next' := 5) rfl rfl rfl rfl rfl rfl rfl ?_
    rcases bool_two (decide ((0 : Int) ≤ c17a)) with hg6 | hg6
    ·simp only [hg6, bb] at hR
     try dsimp only at hR
     cases hR
    simp only [hg6, bb] at hR
    have hg6_ := of_decide_eq_true hg6
    rcases bool_two (decide (c17a ≤ (t0.L.length : Int))) with hg7 | hg7
    ·simp only [hg7, bb] at hR
     try dsimp only at hR
     cases hR
    simp only [hg7, bb] at hR
    have hg7_ := of_decide_eq_true hg7
    refine GX.callx (r' := .own 5 10 0 (ins_ t0.L c17a ([c1] : List TCand)).length) (heap' := [(0, .box (TTable.c t0)), (1, .box (TCand.c c1)), (2, .box [.nils]), (5, .row 10 28 ((ins_ t0.L c17a ([c1] : List TCand)).map TCand.c))]) (next' := 6) [3, 4] [] rfl rfl rfl rfl rfl rfl (insert_okT (c := TCand.c) (fun _ => rfl) mixed i45 ov45 t0.L ([c1] : List TCand) c17a rfl rfl (by omega) (by omega) (by (simp; done)) (by ((try simp only [List.length_append, List.length_cons, List.length_nil, List.length_map, decide_eq_true_eq, decide_eq_false_iff_not] at *) <;> omega)) (by ((try simp only [List.length_append, List.length_cons, List.length_nil, List.length_map, decide_eq_true_eq, decide_eq_false_iff_not] at *) <;> omega))) (.inl rfl) rfl rfl rfl ?_
    refine GX.m rfl ?_
    refine GX.done ?_
    refine WK.nil (QF.normal (hK3 _ ?_))
    refine WK.sr mixed ?_
    refine GX.m rfl ?_
    refine GX.q (.agg [.own 5 10 0 (ins_ t0.L c17a ([c1] : List TCand)).length]) ?_
    refine GX.step0 (heap' := [(0, .box (TTable.c t0)), (1, .box (TCand.c c1)), (2, .box [.own 5 10 0 (ins_ t0.L c17a ([c1] : List TCand)).length]), (5, .row 10 28 ((ins_ t0.L c17a ([c1] : List TCand)).map TCand.c))]) (next' := 6) rfl rfl rfl rfl rfl ?_
    refine GX.m rfl ?_
    refine GX.done ?_
    refine WK.ret ?_
    obtain rfl := Option.some.inj hR
    exact RetQ.fr [5] (.inr rfl) rfl rfl (viewGo_cons (viewP_agg (viewGo_cons (view_rowT rfl rfl) viewGo_nil)) (viewGo_cons rfl viewGo_nil)) rfl
   ·rw [hb5]; first | replace hR := cond_t hb5 hR | (try simp only [hb5, bb] at hR)
    refine WK.condT rfl ?_
    refine WK.sr mixed ?_
    refine GX.q (.agg (TTable.c t0)) ?_
    refine GX.step0 (heap' := [(0, .box (TTable.c t0)), (1, .box (TCand.c c1)), (2, .box (TTable.c t0)), (3, .row 10 28 (t0.L.map TCand.c))]) (next' := 4) rfl rfl rfl rfl rfl ?_
    refine GX.m rfl ?_
    refine GX.done ?_
    refine WK.ret ?_
    refine QF.ret ?_
    obtain rfl := Option.some.inj hR
    exact RetQ.fr [] (.inr rfl) rfl rfl rfl rfl
  ·rw [hb4]; first | replace hR := cond_t hb4 hR | (try simp only [hb4, bb] at hR)
   refine WK.condT rfl ?_
   refine WK.regx mixed ?_
   iterate 2 refine GX.m rfl ?_
   refine GX.q (.agg (TCand.c c1)) ?_
   generalize hx907 : getI t0.L c17a = x907 at hR
   rcases x907 with _ | x907
   ·try dsimp only at hR
    cases hR
   try dsimp only at hR
   obtain ⟨hx9070, hx907j, hx907l, hx907⟩ := getI_some hx907
   refine GX.pure (v' := .eptr 3 10 c17a.toNat 0) rfl rfl rfl (core_idxoT (c := TCand.c) (L := t0.L) (j := c17a.toNat) rfl hx907j hx907l (by exact Nat.le_refl _)) rfl ?_
   refine GX.step0 (heap' := [(0, .box (TTable.c t0)), (1, .box (TCand.c c1)), (2, .box [.nils]), (3, .row 10 28 ((t0.L.set c17a.toNat c1).map TCand.c))]) (next' := 4) rfl rfl (core_stoT (c := TCand.c) (L := t0.L) (x := x907) (x' := c1) rfl hx907 rfl rfl rfl rfl rfl) rfl rfl ?_
   refine GX.done ?_
   refine WK.nil (QF.normal (hK3 _ ?_))
   refine WK.sr mixed ?_
   refine GX.m rfl ?_
   refine GX.q (.agg [.own 3 10 0 t0.L.length]) ?_
   refine GX.step0 (heap' := [(0, .box (TTable.c t0)), (1, .box (TCand.c c1)), (2, .box [.own 3 10 0 t0.L.length]), (3, .row 10 28 ((t0.L.set c17a.toNat c1).map TCand.c))]) (next' := 4) rfl rfl rfl rfl rfl ?_
   refine GX.m rfl ?_
   refine GX.done ?_
   refine WK.ret ?_
   obtain rfl := Option.some.inj hR
   exact RetQ.fr [3] (.inr rfl) rfl rfl (viewGo_cons (viewP_agg (viewGo_cons (view_rowM rfl rfl (by simp)) viewGo_nil)) (viewGo_cons rfl viewGo_nil)) rfl

theorem f7_ok  (R : Bool) (hR : F7_crossroadslaw25_alive = some R) : FnOk Try.prog 7 [] [] 0 (.bool R) [] 0 := by
 refine FnOk.wk i7 rfl rfl ?_
 unfold F7_crossroadslaw25_alive at hR
 try dsimp only at hR
 change WK _ _ _ [ac7] _ ⟨[], [], 0⟩
 unfold ac7
 refine WK.sr mixed ?_
 refine GX.m rfl ?_
 refine GX.done ?_
 refine WK.sr mixed ?_
 refine GX.q (.agg [.int .i64 1, .int .u32 0]) ?_
 refine GX.step (v' := .own 0 2 0 (([(⟨1, 0⟩ : THop)] : List THop)).length) (heap' := [(0, .row 2 61 (([(⟨1, 0⟩ : THop)] : List THop).map THop.c))]) (next' := 1) rfl rfl rfl rfl rfl rfl rfl ?_
 refine GX.q (.agg [.int .u32 0, .int .i64 0, .int .i64 2, .int .i64 0, .int .i64 110, .int .i64 0, .int .u32 0, .bool false, .int .i64 0, .own 0 2 0 (([(⟨1, 0⟩ : THop)] : List THop)).length]) ?_
 refine GX.step (v' := .ptr 1 0) (heap' := [(0, .row 2 61 (([(⟨1, 0⟩ : THop)] : List THop).map THop.c)), (1, .box [.int .u32 0, .int .i64 0, .int .i64 0, .int .i64 0, .int .i64 0, .int .i64 0, .int .u32 0, .bool false, .int .i64 0, .nils])]) (next' := 2) rfl rfl rfl rfl rfl rfl rfl ?_
 refine GX.step0 (heap' := [(0, .row 2 61 (([(⟨1, 0⟩ : THop)] : List THop).map THop.c)), (1, .box [.int .u32 0, .int .i64 0, .int .i64 2, .int .i64 0, .int .i64 110, .int .i64 0, .int .u32 0, .bool false, .int .i64 0, .own 0 2 0 (([(⟨1, 0⟩ : THop)] : List THop)).length])]) (next' := 2) rfl rfl rfl rfl rfl ?_
 refine GX.done ?_
 refine WK.sr mixed ?_
 refine GX.q (.agg [.int .i64 2, .int .u32 0]) ?_
 refine GX.step (v' := .own 2 2 0 (([(⟨2, 0⟩ : THop)] : List THop)).length) (heap' := [(0, .row 2 61 (([(⟨1, 0⟩ : THop)] : List THop).map THop.c)), (1, .box [.int .u32 0, .int .i64 0, .int .i64 2, .int .i64 0, .int .i64 110, .int .i64 0, .int .u32 0, .bool false, .int .i64 0, .own 0 2 0 (([(⟨1, 0⟩ : THop)] : List THop)).length]), (2, .row 2 61 (([(⟨2, 0⟩ : THop)] : List THop).map THop.c))]) (next' := 3) rfl rfl rfl rfl rfl rfl rfl ?_
 refine GX.q (.agg [.int .u32 0, .int .i64 0, .int .i64 1, .int .i64 0, .int .i64 1, .int .i64 0, .int .u32 0, .bool false, .int .i64 0, .own 2 2 0 (([(⟨2, 0⟩ : THop)] : List THop)).length]) ?_
 refine GX.step (v' := .ptr 3 0) (heap' := [(0, .row 2 61 (([(⟨1, 0⟩ : THop)] : List THop).map THop.c)), (1, .box [.int .u32 0, .int .i64 0, .int .i64 2, .int .i64 0, .int .i64 110, .int .i64 0, .int .u32 0, .bool false, .int .i64 0, .own 0 2 0 (([(⟨1, 0⟩ : THop)] : List THop)).length]), (2, .row 2 61 (([(⟨2, 0⟩ : THop)] : List THop).map THop.c)), (3, .box [.int .u32 0, .int .i64 0, .int .i64 0, .int .i64 0, .int .i64 0, .int .i64 0, .int .u32 0, .bool false, .int .i64 0, .nils])]) (next' := 4) rfl rfl rfl rfl rfl rfl rfl ?_
 refine GX.step0 (heap' := [(0, .row 2 61 (([(⟨1, 0⟩ : THop)] : List THop).map THop.c)), (1, .box [.int .u32 0, .int .i64 0, .int .i64 2, .int .i64 0, .int .i64 110, .int .i64 0, .int .u32 0, .bool false, .int .i64 0, .own 0 2 0 (([(⟨1, 0⟩ : THop)] : List THop)).length]), (2, .row 2 61 (([(⟨2, 0⟩ : THop)] : List THop).map THop.c)), (3, .box [.int .u32 0, .int .i64 0, .int .i64 1, .int .i64 0, .int .i64 1, .int .i64 0, .int .u32 0, .bool false, .int .i64 0, .own 2 2 0 (([(⟨2, 0⟩ : THop)] : List THop)).length])]) (next' := 4) rfl rfl rfl rfl rfl ?_
 refine GX.done ?_
 refine WK.seq ?_
 refine WK.conv (st' := ⟨[(1, .ptr 0 0), (2, .ptr 1 0)], [(0, .box [.int .u32 0, .int .i64 0, .int .i64 2, .int .i64 0, .int .i64 110, .int .i64 0, .int .u32 0, .bool false, .int .i64 0, .ro 2 (([(⟨1, 0⟩ : THop)] : List THop).map THop.c)]), (1, .box [.int .u32 0, .int .i64 0, .int .i64 1, .int .i64 0, .int .i64 1, .int .i64 0, .int .u32 0, .bool false, .int .i64 0, .own 2 2 0 (([(⟨2, 0⟩ : THop)] : List THop)).length]), (2, .row 2 61 (([(⟨2, 0⟩ : THop)] : List THop).map THop.c))], 3⟩) (Conv.keep [1, 3, 2] [0] [1, 2] rfl rfl (viewE_cons rfl rfl (viewE_cons rfl rfl viewE_nil)) (subH_cons rfl (viewO_box (viewGo_cons rfl (viewGo_cons rfl (viewGo_cons rfl (viewGo_cons rfl (viewGo_cons rfl (viewGo_cons rfl (viewGo_cons rfl (viewGo_cons rfl (viewGo_cons rfl (viewGo_cons (view_rowT rfl rfl) viewGo_nil))))))))))) (subH_cons rfl rfl (subH_cons rfl rfl subH_nil))) rfl) ?_ (by simp)
 refine WK.regx mixed ?_
 refine GX.q (.agg [.nils]) ?_
 refine GX.q (.agg [.int .u32 0, .int .i64 0, .int .i64 2, .int .i64 0, .int .i64 110, .int .i64 0, .int .u32 0, .bool false, .int .i64 0, .ro 2 (([(⟨1, 0⟩ : THop)] : List THop).map THop.c)]) ?_
 generalize hc17 : F23_rib_Put (⟨([] : List TCand)⟩ : TTable) (⟨(⟨0, 0⟩ : TPrefix), 2, 0, 110, 0, 0, false, 0, ([(⟨1, 0⟩ : THop)] : List THop)⟩ : TCand) = c17 at hR
 rcases c17 with _ | c17
 ·try dsimp only at hR
  cases hR
 try dsimp only at hR
 obtain ⟨c17a, c17b⟩ := c17; try dsimp only at hR
 refine GX.callp (r := .tup [.agg [.ro 10 (c17a.L.map TCand.c)], .int .i64 c17b]) rfl rfl rfl (FnOk.weak (f23_ok (⟨([] : List TCand)⟩ : TTable) (⟨(⟨0, 0⟩ : TPrefix), 2, 0, 110, 0, 0, false, 0, ([(⟨1, 0⟩ : THop)] : List THop)⟩ : TCand) _ hc17) (.cons (.agg (.cons .nil .refl)) .refl)) rfl rfl ?_
 refine GX.m rfl ?_
 refine GX.q (.agg [.ro 10 (c17a.L.map TCand.c)]) ?_
 refine GX.q (.int .i64 c17b) ?_
 refine GX.step (v' := .ptr 3 0) (heap' := [(0, .box [.int .u32 0, .int .i64 0, .int .i64 2, .int .i64 0, .int .i64 110, .int .i64 0, .int .u32 0, .bool false, .int .i64 0, .ro 2 (([(⟨1, 0⟩ : THop)] : List THop).map THop.c)]), (1, .box [.int .u32 0, .int .i64 0, .int .i64 1, .int .i64 0, .int .i64 1, .int .i64 0, .int .u32 0, .bool false, .int .i64 0, .own 2 2 0 (([(⟨2, 0⟩ : THop)] : List THop)).length]), (2, .row 2 61 (([(⟨2, 0⟩ : THop)] : List THop).map THop.c)), (3, .box [.nils])]) (next' := 4) rfl rfl rfl rfl rfl rfl rfl ?_
 refine GX.step0 (heap' := [(0, .box [.int .u32 0, .int .i64 0, .int .i64 2, .int .i64 0, .int .i64 110, .int .i64 0, .int .u32 0, .bool false, .int .i64 0, .ro 2 (([(⟨1, 0⟩ : THop)] : List THop).map THop.c)]), (1, .box [.int .u32 0, .int .i64 0, .int .i64 1, .int .i64 0, .int .i64 1, .int .i64 0, .int .u32 0, .bool false, .int .i64 0, .own 2 2 0 (([(⟨2, 0⟩ : THop)] : List THop)).length]), (2, .row 2 61 (([(⟨2, 0⟩ : THop)] : List THop).map THop.c)), (3, .box (TTable.c c17a))]) (next' := 4) rfl rfl rfl rfl rfl ?_
 refine GX.m rfl ?_
 refine GX.done ?_
 refine WK.seq ?_
 refine WK.conv (st' := ⟨[(1, .ptr 0 0), (2, .ptr 1 0), (3, .ptr 2 0), (4, .int .i64 c17b)], [(0, .box [.int .u32 0, .int .i64 0, .int .i64 2, .int .i64 0, .int .i64 110, .int .i64 0, .int .u32 0, .bool false, .int .i64 0, .ro 2 (([(⟨1, 0⟩ : THop)] : List THop).map THop.c)]), (1, .box [.int .u32 0, .int .i64 0, .int .i64 1, .int .i64 0, .int .i64 1, .int .i64 0, .int .u32 0, .bool false, .int .i64 0, .ro 2 (([(⟨2, 0⟩ : THop)] : List THop).map THop.c)]), (2, .box (TTable.c c17a))], 3⟩) (Conv.keep [0, 1, 3] [2] [1, 2, 3, 4] rfl rfl (viewE_cons rfl rfl (viewE_cons rfl rfl (viewE_cons rfl rfl (viewE_cons rfl rfl viewE_nil)))) (subH_cons rfl rfl (subH_cons rfl (viewO_box (viewGo_cons rfl (viewGo_cons rfl (viewGo_cons rfl (viewGo_cons rfl (viewGo_cons rfl (viewGo_cons rfl (viewGo_cons rfl (viewGo_cons rfl (viewGo_cons rfl (viewGo_cons (view_rowT rfl rfl) viewGo_nil))))))))))) (subH_cons rfl rfl subH_nil))) rfl) ?_ (by simp)
 refine WK.regx mixed ?_
 refine GX.q (.agg (TTable.c c17a)) ?_
 refine GX.q (.agg [.int .u32 0, .int .i64 0, .int .i64 1, .int .i64 0, .int .i64 1, .int .i64 0, .int .u32 0, .bool false, .int .i64 0, .ro 2 (([(⟨2, 0⟩ : THop)] : List THop).map THop.c)]) ?_
 generalize hc23 : F23_rib_Put c17a (⟨(⟨0, 0⟩ : TPrefix), 1, 0, 1, 0, 0, false, 0, ([(⟨2, 0⟩ : THop)] : List THop)⟩ : TCand) = c23 at hR
 rcases c23 with _ | c23
 ·try dsimp only at hR
  cases hR
 try dsimp only at hR
 obtain ⟨c23a, c23b⟩ := c23; try dsimp only at hR
 refine GX.callp (r := .tup [.agg [.ro 10 (c23a.L.map TCand.c)], .int .i64 c23b]) rfl rfl rfl (f23_ok c17a (⟨(⟨0, 0⟩ : TPrefix), 1, 0, 1, 0, 0, false, 0, ([(⟨2, 0⟩ : THop)] : List THop)⟩ : TCand) _ hc23) rfl rfl ?_
 refine GX.m rfl ?_
 refine GX.q (.agg [.ro 10 (c23a.L.map TCand.c)]) ?_
 refine GX.q (.int .i64 c23b) ?_
 refine GX.step0 (heap' := [(0, .box [.int .u32 0, .int .i64 0, .int .i64 2, .int .i64 0, .int .i64 110, .int .i64 0, .int .u32 0, .bool false, .int .i64 0, .ro 2 (([(⟨1, 0⟩ : THop)] : List THop).map THop.c)]), (1, .box [.int .u32 0, .int .i64 0, .int .i64 1, .int .i64 0, .int .i64 1, .int .i64 0, .int .u32 0, .bool false, .int .i64 0, .ro 2 (([(⟨2, 0⟩ : THop)] : List THop).map THop.c)]), (2, .box (TTable.c c23a))]) (next' := 3) rfl rfl rfl rfl rfl ?_
 refine GX.m rfl ?_
 refine GX.done ?_
 refine WK.sr mixed ?_
 refine GX.q (.agg (TTable.c c23a)) ?_
 generalize hc28 : F18_rib_Find c23a 5 = c28 at hR
 rcases c28 with _ | c28
 ·try dsimp only at hR
  cases hR
 try dsimp only at hR
 obtain ⟨c28a, c28b⟩ := c28; try dsimp only at hR
 refine GX.callp (r := .tup [.agg [.int .u32 c28a.P.A, .int .i64 c28a.P.N, .int .i64 c28a.Proto, .int .i64 c28a.Inst, .int .i64 c28a.Dist, .int .i64 c28a.Metric, .int .u32 c28a.Tag, .bool c28a.Leaked, .int .i64 c28a.From, .ro 2 (c28a.Hops.map THop.c)], .bool c28b]) rfl rfl rfl (f18_ok c23a 5 _ hc28) rfl rfl ?_
 refine GX.m rfl ?_
 refine GX.q (.agg [.int .u32 c28a.P.A, .int .i64 c28a.P.N, .int .i64 c28a.Proto, .int .i64 c28a.Inst, .int .i64 c28a.Dist, .int .i64 c28a.Metric, .int .u32 c28a.Tag, .bool c28a.Leaked, .int .i64 c28a.From, .ro 2 (c28a.Hops.map THop.c)]) ?_
 refine GX.q (.bool c28b) ?_
 refine GX.step (v' := .ptr 3 0) (heap' := [(0, .box [.int .u32 0, .int .i64 0, .int .i64 2, .int .i64 0, .int .i64 110, .int .i64 0, .int .u32 0, .bool false, .int .i64 0, .ro 2 (([(⟨1, 0⟩ : THop)] : List THop).map THop.c)]), (1, .box [.int .u32 0, .int .i64 0, .int .i64 1, .int .i64 0, .int .i64 1, .int .i64 0, .int .u32 0, .bool false, .int .i64 0, .ro 2 (([(⟨2, 0⟩ : THop)] : List THop).map THop.c)]), (2, .box (TTable.c c23a)), (3, .box [.int .u32 0, .int .i64 0, .int .i64 0, .int .i64 0, .int .i64 0, .int .i64 0, .int .u32 0, .bool false, .int .i64 0, .nils])]) (next' := 4) rfl rfl rfl rfl rfl rfl rfl ?_
 refine GX.step0 (heap' := [(0, .box [.int .u32 0, .int .i64 0, .int .i64 2, .int .i64 0, .int .i64 110, .int .i64 0, .int .u32 0, .bool false, .int .i64 0, .ro 2 (([(⟨1, 0⟩ : THop)] : List THop).map THop.c)]), (1, .box [.int .u32 0, .int .i64 0, .int .i64 1, .int .i64 0, .int .i64 1, .int .i64 0, .int .u32 0, .bool false, .int .i64 0, .ro 2 (([(⟨2, 0⟩ : THop)] : List THop).map THop.c)]), (2, .box (TTable.c c23a)), (3, .box (TCand.c c28a))]) (next' := 4) rfl rfl rfl rfl rfl ?_
 refine GX.m rfl ?_
 refine GX.done ?_
 refine WK.sr mixed ?_
 refine GX.m rfl ?_
 refine GX.q (.bool (decide (c17b = 0))) ?_
 refine GX.m rfl ?_
 rcases bool_two (decide (c17b = 0)) with hb1 | hb1
 ·rw [hb1]; first | replace hR := cond_f hb1 hR | (try simp only [hb1, bb] at hR)
  iterate 2 refine GX.skip rfl rfl ?_
  refine GX.q (.bool false) ?_
  refine GX.m rfl ?_
  refine GX.skip rfl rfl ?_
  refine GX.q (.bool false) ?_
  refine GX.m rfl ?_
  iterate 3 refine GX.skip rfl rfl ?_
  refine GX.q (.bool false) ?_
  refine GX.m rfl ?_
  iterate 4 refine GX.skip rfl rfl ?_
  refine GX.q (.bool false) ?_
  refine GX.m rfl ?_
  iterate 3 refine GX.skip rfl rfl ?_
  refine GX.q (.bool false) ?_
  refine GX.m rfl ?_
  refine GX.done ?_
  refine WK.ret ?_
  obtain rfl := Option.some.inj hR
  exact RetQ.fr [] (.inr rfl) rfl rfl rfl rfl
 ·rw [hb1]; first | replace hR := cond_t hb1 hR | (try simp only [hb1, bb] at hR)
  refine GX.m rfl ?_
  iterate 2 refine GX.q (.bool (decide (c23b = 0))) ?_
  refine GX.m rfl ?_
  rcases bool_two (decide (c23b = 0)) with hb2 | hb2
  ·rw [hb2]; first | replace hR := cond_f hb2 hR | (try simp only [hb2, bb] at hR)
   refine GX.skip rfl rfl ?_
   refine GX.q (.bool false) ?_
   refine GX.m rfl ?_
   iterate 3 refine GX.skip rfl rfl ?_
   refine GX.q (.bool false) ?_
   refine GX.m rfl ?_
   iterate 4 refine GX.skip rfl rfl ?_
   refine GX.q (.bool false) ?_
   refine GX.m rfl ?_
   iterate 3 refine GX.skip rfl rfl ?_
   refine GX.q (.bool false) ?_
   refine GX.m rfl ?_
   refine GX.done ?_
   refine WK.ret ?_
   obtain rfl := Option.some.inj hR
   exact RetQ.fr [] (.inr rfl) rfl rfl rfl rfl
  ·rw [hb2]; first | replace hR := cond_t hb2 hR | (try simp only [hb2, bb] at hR)
   refine GX.m rfl ?_
   refine GX.q (.bool c28b) ?_
   refine GX.m rfl ?_
   rcases bool_two (c28b) with hb3 | hb3
   ·rw [hb3]; first | replace hR := cond_f hb3 hR | (try simp only [hb3, bb] at hR)
    iterate 3 refine GX.skip rfl rfl ?_
    refine GX.q (.bool false) ?_
    refine GX.m rfl ?_
    iterate 4 refine GX.skip rfl rfl ?_
    refine GX.q (.bool false) ?_
    refine GX.m rfl ?_
    iterate 3 refine GX.skip rfl rfl ?_
    refine GX.q (.bool false) ?_
    refine GX.m rfl ?_
    refine GX.done ?_
    refine WK.ret ?_
    obtain rfl := Option.some.inj hR
    exact RetQ.fr [] (.inr rfl) rfl rfl rfl rfl
   ·rw [hb3]; first | replace hR := cond_t hb3 hR | (try simp only [hb3, bb] at hR)
    refine GX.q (.ptr 3 4) ?_
    refine GX.q (.int .i64 c28a.Dist) ?_
    iterate 2 refine GX.q (.bool (decide (c28a.Dist = 1))) ?_
    refine GX.m rfl ?_
    rcases bool_two (decide (c28a.Dist = 1)) with hb4 | hb4
    ·rw [hb4]; first | replace hR := cond_f hb4 hR | (try simp only [hb4, bb] at hR)
     iterate 4 refine GX.skip rfl rfl ?_
     refine GX.q (.bool false) ?_
     refine GX.m rfl ?_
     iterate 3 refine GX.skip rfl rfl ?_
     refine GX.q (.bool false) ?_
     refine GX.m rfl ?_
     refine GX.done ?_
     refine WK.ret ?_
     obtain rfl := Option.some.inj hR
     exact RetQ.fr [] (.inr rfl) rfl rfl rfl rfl
    ·rw [hb4]; first | replace hR := cond_t hb4 hR | (try simp only [hb4, bb] at hR)
     refine GX.q (.ptr 2 0) ?_
     refine GX.q (.ro 10 (c23a.L.map TCand.c)) ?_
     refine GX.pure (v' := .int .i64 (c23a.L.length : Int)) rfl rfl rfl rfl (len_map _ _) ?_
     iterate 2 refine GX.q (.bool (decide ((c23a.L.length : Int) = 2))) ?_
     refine GX.m rfl ?_
     rcases bool_two (decide ((c23a.L.length : Int) = 2)) with hb5 | hb5
     ·rw [hb5]; first | replace hR := cond_f hb5 hR | (try simp only [hb5, bb] at hR)
      iterate 3 refine GX.skip rfl rfl ?_
      refine GX.q (.bool false) ?_
      refine GX.m rfl ?_
      refine GX.done ?_
      refine WK.ret ?_
      obtain rfl := Option.some.inj hR
      exact RetQ.fr [] (.inr rfl) rfl rfl rfl rfl
     ·rw [hb5]; first | replace hR := cond_t hb5 hR | (try simp only [hb5, bb] at hR)
      refine GX.q (.agg [.int .u32 0, .int .i64 0, .int .i64 1, .int .i64 0, .int .i64 1, .int .i64 0, .int .u32 0, .bool false, .int .i64 0, .ro 2 (([(⟨2, 0⟩ : THop)] : List THop).map THop.c)]) ?_
      refine GX.q (.agg [.int .u32 0, .int .i64 0, .int .i64 2, .int .i64 0, .int .i64 110, .int .i64 0, .int .u32 0, .bool false, .int .i64 0, .ro 2 (([(⟨1, 0⟩ : THop)] : List THop).map THop.c)]) ?_
      generalize hc54 : F16_rib_Better (⟨(⟨0, 0⟩ : TPrefix), 1, 0, 1, 0, 0, false, 0, ([(⟨2, 0⟩ : THop)] : List THop)⟩ : TCand) (⟨(⟨0, 0⟩ : TPrefix), 2, 0, 110, 0, 0, false, 0, ([(⟨1, 0⟩ : THop)] : List THop)⟩ : TCand) = c54 at hR
      try dsimp only at hR
      refine GX.callp (r := .bool c54) rfl rfl rfl (f16_ok (⟨(⟨0, 0⟩ : TPrefix), 1, 0, 1, 0, 0, false, 0, ([(⟨2, 0⟩ : THop)] : List THop)⟩ : TCand) (⟨(⟨0, 0⟩ : TPrefix), 2, 0, 110, 0, 0, false, 0, ([(⟨1, 0⟩ : THop)] : List THop)⟩ : TCand) _ hc54) rfl rfl ?_
      refine GX.q (.bool c54) ?_
      refine GX.m rfl ?_
      refine GX.done ?_
      refine WK.ret ?_
      obtain rfl := Option.some.inj hR
      exact RetQ.fr [] (.inr rfl) rfl rfl rfl rfl

theorem f39_ok (a0 : Int) (i1 : Int) (R : Int) (hR : F39_crossroadsref03_Bit a0 i1 = R) : FnOk Try.prog 39 [.int .u32 a0, .int .i64 i1] [] 0 (.int .i64 R) [] 0 := by
 refine FnOk.wk i39 rfl rfl ?_
 unfold F39_crossroadsref03_Bit at hR
 change WK _ _ _ [ac39] _ ⟨[(0, .int .u32 a0), (1, .int .i64 i1)], [], 0⟩
 unfold ac39
 refine WK.sr mixed ?_
 refine GX.m rfl ?_
 refine GX.done ?_
 refine WK.seq ?_
 refine WK.sr mixed ?_
 refine GX.m rfl ?_
 refine GX.q (.bool (decide (i1 < 0))) ?_
 refine GX.m rfl ?_
 rcases bool_two (decide (i1 < 0)) with hb1 | hb1
 ·rw [hb1]; try simp only [hb1, bb] at hR
  refine GX.m rfl ?_
  iterate 2 refine GX.q (.bool (decide (31 < i1))) ?_
  refine GX.done ?_
  rcases bool_two (decide (31 < i1)) with hb2 | hb2
  ·rw [hb2]; try simp only [hb2, bb] at hR
   refine WK.condF rfl ?_
   refine WK.skip ?_
   refine WK.sr mixed ?_
   iterate 2 refine GX.m rfl ?_
   refine GX.q (.int .i64 (IntKind.i64.wrap (31 - i1))) ?_
   refine GX.q (.int .u64 (IntKind.u64.wrap (IntKind.i64.wrap (31 - i1)))) ?_
   refine GX.shr rfl rfl rfl (by exact wrap_u64_nonneg _) ?_
   refine GX.q (.int .u32 (bit_and .u32 (shr_ .u32 a0 (IntKind.u64.wrap (IntKind.i64.wrap (31 - i1)))) 1)) ?_
   refine GX.q (.int .i64 (IntKind.i64.wrap (bit_and .u32 (shr_ .u32 a0 (IntKind.u64.wrap (IntKind.i64.wrap (31 - i1)))) 1))) ?_
   refine GX.m rfl ?_
   refine GX.done ?_
   refine WK.ret ?_
   subst hR
   exact RetQ.fr [] (.inr rfl) rfl rfl rfl rfl
  ·rw [hb2]; try simp only [hb2, bb] at hR
   refine WK.condT rfl ?_
   refine WK.sr mixed ?_
   refine GX.m rfl ?_
   refine GX.done ?_
   refine WK.ret ?_
   subst hR
   exact RetQ.fr [] (.inr rfl) rfl rfl rfl rfl
 ·rw [hb1]; try simp only [hb1, bb] at hR
  iterate 2 refine GX.skip rfl rfl ?_
  refine GX.q (.bool true) ?_
  refine GX.done ?_
  refine WK.condT rfl ?_
  refine WK.sr mixed ?_
  refine GX.m rfl ?_
  refine GX.done ?_
  refine WK.ret ?_
  subst hR
  exact RetQ.fr [] (.inr rfl) rfl rfl rfl rfl

theorem f28_ok (p0 : TPrefix) (R : Bool) (hR : F28_crossroadsref03_May p0 = R) : FnOk Try.prog 28 [.agg (TPrefix.c p0)] [] 0 (.bool R) [] 0 := by
 refine FnOk.wk i28 rfl rfl ?_
 unfold F28_crossroadsref03_May at hR
 change WK _ _ _ [ac28] _ ⟨[(0, .agg (TPrefix.c p0))], [], 0⟩
 unfold ac28
 refine WK.sr mixed ?_
 refine GX.step (v' := .ptr 0 0) (heap' := [(0, .box (TPrefix.c p0))]) (next' := 1) rfl rfl rfl rfl rfl rfl rfl ?_
 refine GX.m rfl ?_
 refine GX.done ?_
 refine WK.seq ?_
 refine WK.sr mixed ?_
 refine GX.q (.ptr 0 1) ?_
 refine GX.q (.int .i64 p0.N) ?_
 refine GX.q (.bool (decide (p0.N < 0))) ?_
 refine GX.m rfl ?_
 rcases bool_two (decide (p0.N < 0)) with hb1 | hb1
 ·rw [hb1]; try simp only [hb1, bb] at hR
  refine GX.q (.ptr 0 1) ?_
  refine GX.q (.int .i64 p0.N) ?_
  iterate 2 refine GX.q (.bool (decide (32 < p0.N))) ?_
  refine GX.done ?_
  rcases bool_two (decide (32 < p0.N)) with hb2 | hb2
  ·rw [hb2]; try simp only [hb2, bb] at hR
   refine WK.condF rfl ?_
   refine WK.skip ?_
   refine WK.seq ?_
   refine WK.sr mixed ?_
   refine GX.q (.ptr 0 1) ?_
   refine GX.q (.int .i64 p0.N) ?_
   refine GX.m rfl ?_
   refine GX.done ?_
   generalize hZ_3 : F28_crossroadsref03_May_l1 p0 (fuelUp p0.N 32) p0.N = Z_3 at hR
   refine WK.forK (fun k s => ∃ (i3 : Int), fuelUp i3 32 ≤ k ∧ F28_crossroadsref03_May_l1 p0 k i3 = Z_3 ∧ s = ⟨[(1, .ptr 0 0), (3, .int .i64 i3)], [(0, .box (TPrefix.c p0))], 1⟩) (fuelUp p0.N 32) ⟨⟨[(1, .ptr 0 0), (3, .int .i64 p0.N)], [(0, .box (TPrefix.c p0))], 1⟩, Conv.keep [0] [] [1, 3] rfl rfl (viewE_cons rfl rfl (viewE_cons rfl rfl viewE_nil)) rfl rfl, p0.N, Nat.le_refl _, hZ_3, rfl⟩ ?_
   rintro k3 _ ⟨i3, hfu3, hL_3, rfl⟩ again_3 out_3 Q_3 hagain_3 hout_3 hQ_3
   refine WK.seq ?_
   refine WK.sr mixed ?_
   refine GX.m rfl ?_
   refine GX.q (.bool (decide (i3 < 32))) ?_
   refine GX.done ?_
   rcases bool_two (decide (i3 < 32)) with hb4 | hb4
   ·rw [hb4]
    unfold F28_crossroadsref03_May_l1 at hL_3; rw [hb4, cond_false] at hL_3
    refine WK.condF rfl ?_
    refine WK.exit ?_
    refine QF.exit (hout_3 _ ?_)
    subst hL_3
    try dsimp only [cond_true, cond_false] at hR
    refine WK.sr mixed ?_
    refine GX.m rfl ?_
    refine GX.done ?_
    refine WK.ret ?_
    subst hR
    exact RetQ.fr [] (.inr rfl) rfl rfl rfl rfl
   ·rw [hb4]
    obtain ⟨f3, rfl⟩ := fuel_pos hb4 hfu3
    unfold F28_crossroadsref03_May_l1 at hL_3; rw [hb4, cond_true] at hL_3; dsimp only at hL_3
    refine WK.condT rfl ?_
    refine WK.skip ?_
    refine WK.seq ?_
    refine WK.blockK (fun _ hK5 => ?_)
    refine WK.sr mixed ?_
    refine GX.q (.ptr 0 0) ?_
    refine GX.q (.int .u32 p0.A) ?_
    refine GX.m rfl ?_
    generalize hc21 : F39_crossroadsref03_Bit p0.A i3 = c21 at hL_3
    try dsimp only at hL_3
    refine GX.callp (r := .int .i64 c21) rfl rfl rfl (f39_ok p0.A i3 _ hc21) rfl rfl ?_
    refine GX.q (.bool (decide (c21 = 1))) ?_
    refine GX.done ?_
    rcases bool_two (decide (c21 = 1)) with hb6 | hb6
    ·rw [hb6]; try simp only [hb6, bb] at hL_3
     refine WK.condF rfl ?_
     refine WK.skip ?_
     refine WK.nil (QF.normal (hK5 _ ?_))
     refine WK.regx mixed ?_
     refine GX.m rfl ?_
     refine GX.q (.int .i64 (IntKind.i64.wrap (i3 + 1))) ?_
     refine GX.m rfl ?_
     refine GX.done ?_
     refine WK.nil (QF.normal ?_)
     exact hagain_3 _ f3 ⟨[(1, .ptr 0 0), (3, .int .i64 (IntKind.i64.wrap (i3 + 1)))], [(0, .box (TPrefix.c p0))], 1⟩ (Nat.lt_succ_self _) (Conv.keep [0] [] [1, 3] rfl rfl (viewE_cons rfl rfl (viewE_cons rfl rfl viewE_nil)) rfl rfl) ⟨(IntKind.i64.wrap (i3 + 1)), fuel_up hb4 (by decide) hfu3, hL_3, rfl⟩
    ·rw [hb6]; try simp only [hb6, bb] at hL_3
     refine WK.condT rfl ?_
     refine WK.sr mixed ?_
     refine GX.m rfl ?_
     refine GX.done ?_
     refine WK.ret ?_
     refine QF.ret ?_
     refine QF.ret (hQ_3 _ _ ?_)
     subst hL_3
     subst hR
     exact RetQ.fr [] (.inr rfl) rfl rfl rfl rfl
  ·rw [hb2]; try simp only [hb2, bb] at hR
   refine WK.condT rfl ?_
   refine WK.sr mixed ?_
   refine GX.m rfl ?_
   refine GX.done ?_
   refine WK.ret ?_
   subst hR
   exact RetQ.fr [] (.inr rfl) rfl rfl rfl rfl
 ·rw [hb1]; try simp only [hb1, bb] at hR
  iterate 3 refine GX.skip rfl rfl ?_
  refine GX.q (.bool true) ?_
  refine GX.done ?_
  refine WK.condT rfl ?_
  refine WK.sr mixed ?_
  refine GX.m rfl ?_
  refine GX.done ?_
  refine WK.ret ?_
  subst hR
  exact RetQ.fr [] (.inr rfl) rfl rfl rfl rfl

theorem f29_ok (n0 : Int) (low1 : Int) (high2 : Int) (R : Bool) (hR : F29_crossroadsref25_in n0 low1 high2 = R) : FnOk Try.prog 29 [.int .i64 n0, .int .i64 low1, .int .i64 high2] [] 0 (.bool R) [] 0 := by
 refine FnOk.wk i29 rfl rfl ?_
 unfold F29_crossroadsref25_in at hR
 change WK _ _ _ [ac29] _ ⟨[(0, .int .i64 n0), (1, .int .i64 low1), (2, .int .i64 high2)], [], 0⟩
 unfold ac29
 refine WK.sr mixed ?_
 refine GX.m rfl ?_
 refine GX.done ?_
 refine WK.sr mixed ?_
 iterate 2 refine GX.m rfl ?_
 refine GX.q (.bool (decide (low1 ≤ n0))) ?_
 refine GX.m rfl ?_
 rcases bool_two (decide (low1 ≤ n0)) with hb1 | hb1
 ·rw [hb1]; try simp only [hb1, bb] at hR
  iterate 3 refine GX.skip rfl rfl ?_
  refine GX.q (.bool false) ?_
  refine GX.m rfl ?_
  refine GX.done ?_
  refine WK.ret ?_
  subst hR
  exact RetQ.fr [] (.inr rfl) rfl rfl rfl rfl
 ·rw [hb1]; try simp only [hb1, bb] at hR
  iterate 2 refine GX.m rfl ?_
  iterate 2 refine GX.q (.bool (decide (n0 ≤ high2))) ?_
  refine GX.m rfl ?_
  refine GX.done ?_
  refine WK.ret ?_
  subst hR
  exact RetQ.fr [] (.inr rfl) rfl rfl rfl rfl

theorem f9_ok (c0 : TCand) (R : Bool) (hR : F9_crossroadsref25_May c0 = R) : FnOk Try.prog 9 [.agg (TCand.c c0)] [] 0 (.bool R) [] 0 := by
 refine FnOk.wk i9 rfl rfl ?_
 unfold F9_crossroadsref25_May at hR
 change WK _ _ _ [ac9] _ ⟨[(0, .agg (TCand.c c0))], [], 0⟩
 unfold ac9
 refine WK.sr mixed ?_
 refine GX.step (v' := .ptr 0 0) (heap' := [(0, .box (TCand.c c0))]) (next' := 1) rfl rfl rfl rfl rfl rfl rfl ?_
 refine GX.m rfl ?_
 refine GX.done ?_
 refine WK.seq ?_
 refine WK.sr mixed ?_
 refine GX.q (.ptr 0 0) ?_
 refine GX.q (.agg [.int .u32 c0.P.A, .int .i64 c0.P.N]) ?_
 generalize hc5 : F28_crossroadsref03_May c0.P = c5 at hR
 try dsimp only at hR
 refine GX.callp (r := .bool c5) rfl rfl rfl (f28_ok c0.P _ hc5) rfl rfl ?_
 refine GX.q (.bool (!c5)) ?_
 refine GX.m rfl ?_
 rcases bool_two (c5) with hb1 | hb1
 ·rw [hb1]; try simp only [hb1, bb] at hR
  iterate 4 refine GX.skip rfl rfl ?_
  refine GX.q (.bool true) ?_
  refine GX.m rfl ?_
  iterate 4 refine GX.skip rfl rfl ?_
  refine GX.q (.bool true) ?_
  refine GX.m rfl ?_
  iterate 3 refine GX.skip rfl rfl ?_
  refine GX.q (.bool true) ?_
  refine GX.m rfl ?_
  iterate 4 refine GX.skip rfl rfl ?_
  refine GX.q (.bool true) ?_
  refine GX.m rfl ?_
  iterate 5 refine GX.skip rfl rfl ?_
  refine GX.q (.bool true) ?_
  refine GX.done ?_
  refine WK.condT rfl ?_
  refine WK.sr mixed ?_
  refine GX.m rfl ?_
  refine GX.done ?_
  refine WK.ret ?_
  subst hR
  exact RetQ.fr [] (.inr rfl) rfl rfl rfl rfl
 ·rw [hb1]; try simp only [hb1, bb] at hR
  refine GX.q (.ptr 0 2) ?_
  refine GX.q (.int .i64 c0.Proto) ?_
  generalize hc10 : F29_crossroadsref25_in c0.Proto 0 5 = c10 at hR
  try dsimp only at hR
  refine GX.callp (r := .bool c10) rfl rfl rfl (f29_ok c0.Proto 0 5 _ hc10) rfl rfl ?_
  iterate 2 refine GX.q (.bool (!c10)) ?_
  refine GX.m rfl ?_
  rcases bool_two (c10) with hb2 | hb2
  ·rw [hb2]; try simp only [hb2, bb] at hR
   iterate 4 refine GX.skip rfl rfl ?_
   refine GX.q (.bool true) ?_
   refine GX.m rfl ?_
   iterate 3 refine GX.skip rfl rfl ?_
   refine GX.q (.bool true) ?_
   refine GX.m rfl ?_
   iterate 4 refine GX.skip rfl rfl ?_
   refine GX.q (.bool true) ?_
   refine GX.m rfl ?_
   iterate 5 refine GX.skip rfl rfl ?_
   refine GX.q (.bool true) ?_
   refine GX.done ?_
   refine WK.condT rfl ?_
   refine WK.sr mixed ?_
   refine GX.m rfl ?_
   refine GX.done ?_
   refine WK.ret ?_
   subst hR
   exact RetQ.fr [] (.inr rfl) rfl rfl rfl rfl
  ·rw [hb2]; try simp only [hb2, bb] at hR
   refine GX.q (.ptr 0 3) ?_
   refine GX.q (.int .i64 c0.Inst) ?_
   generalize hc16 : F29_crossroadsref25_in c0.Inst 0 99 = c16 at hR
   try dsimp only at hR
   refine GX.callp (r := .bool c16) rfl rfl rfl (f29_ok c0.Inst 0 99 _ hc16) rfl rfl ?_
   iterate 2 refine GX.q (.bool (!c16)) ?_
   refine GX.m rfl ?_
   rcases bool_two (c16) with hb3 | hb3
   ·rw [hb3]; try simp only [hb3, bb] at hR
    iterate 3 refine GX.skip rfl rfl ?_
    refine GX.q (.bool true) ?_
    refine GX.m rfl ?_
    iterate 4 refine GX.skip rfl rfl ?_
    refine GX.q (.bool true) ?_
    refine GX.m rfl ?_
    iterate 5 refine GX.skip rfl rfl ?_
    refine GX.q (.bool true) ?_
    refine GX.done ?_
    refine WK.condT rfl ?_
    refine WK.sr mixed ?_
    refine GX.m rfl ?_
    refine GX.done ?_
    refine WK.ret ?_
    subst hR
    exact RetQ.fr [] (.inr rfl) rfl rfl rfl rfl
   ·rw [hb3]; try simp only [hb3, bb] at hR
    refine GX.q (.ptr 0 5) ?_
    refine GX.q (.int .i64 c0.Metric) ?_
    iterate 2 refine GX.q (.bool (decide (c0.Metric < 0))) ?_
    refine GX.m rfl ?_
    rcases bool_two (decide (c0.Metric < 0)) with hb4 | hb4
    ·rw [hb4]; try simp only [hb4, bb] at hR
     refine GX.q (.ptr 0 8) ?_
     refine GX.q (.int .i64 c0.From) ?_
     generalize hc27 : F29_crossroadsref25_in c0.From 0 31 = c27 at hR
     try dsimp only at hR
     refine GX.callp (r := .bool c27) rfl rfl rfl (f29_ok c0.From 0 31 _ hc27) rfl rfl ?_
     iterate 2 refine GX.q (.bool (!c27)) ?_
     refine GX.m rfl ?_
     rcases bool_two (c27) with hb5 | hb5
     ·rw [hb5]; try simp only [hb5, bb] at hR
      iterate 5 refine GX.skip rfl rfl ?_
      refine GX.q (.bool true) ?_
      refine GX.done ?_
      refine WK.condT rfl ?_
      refine WK.sr mixed ?_
      refine GX.m rfl ?_
      refine GX.done ?_
      refine WK.ret ?_
      subst hR
      exact RetQ.fr [] (.inr rfl) rfl rfl rfl rfl
     ·rw [hb5]; try simp only [hb5, bb] at hR
      refine GX.q (.ptr 0 9) ?_
      refine GX.q (.ro 2 (c0.Hops.map THop.c)) ?_
      refine GX.pure (v' := .int .i64 (c0.Hops.length : Int)) rfl rfl rfl rfl (len_map _ _) ?_
      generalize hc34 : F29_crossroadsref25_in (c0.Hops.length : Int) 1 8 = c34 at hR
      try dsimp only at hR
      refine GX.callp (r := .bool c34) rfl rfl rfl (f29_ok (c0.Hops.length : Int) 1 8 _ hc34) rfl rfl ?_
      iterate 2 refine GX.q (.bool (!c34)) ?_
      refine GX.done ?_
      rcases bool_two (c34) with hb6 | hb6
      ·rw [hb6]; try simp only [hb6, bb] at hR
       refine WK.condT rfl ?_
       refine WK.sr mixed ?_
       refine GX.m rfl ?_
       refine GX.done ?_
       refine WK.ret ?_
       subst hR
       exact RetQ.fr [] (.inr rfl) rfl rfl rfl rfl
      ·rw [hb6]; try simp only [hb6, bb] at hR
       refine WK.condF rfl ?_
       refine WK.skip ?_
       refine WK.seq ?_
       refine WK.sr mixed ?_
       refine GX.q (.ptr 0 7) ?_
       refine GX.q (.bool c0.Leaked) ?_
       refine GX.q (.bool (!c0.Leaked)) ?_
       refine GX.m rfl ?_
       rcases bool_two (c0.Leaked) with hb7 | hb7
       ·rw [hb7]; try simp only [hb7, bb] at hR
        refine GX.q (.ptr 0 8) ?_
        refine GX.q (.int .i64 c0.From) ?_
        iterate 2 refine GX.q (.bool (!decide (c0.From = 0))) ?_
        refine GX.done ?_
        rcases bool_two (decide (c0.From = 0)) with hb8 | hb8
        ·rw [hb8]; try simp only [hb8, bb] at hR
         refine WK.condT rfl ?_
         refine WK.sr mixed ?_
         refine GX.m rfl ?_
         refine GX.done ?_
         refine WK.ret ?_
         subst hR
         exact RetQ.fr [] (.inr rfl) rfl rfl rfl rfl
        ·rw [hb8]; try simp only [hb8, bb] at hR
         refine WK.condF rfl ?_
         refine WK.skip ?_
         refine WK.sr mixed ?_
         refine GX.q (.ptr 0 2) ?_
         refine GX.q (.int .i64 c0.Proto) ?_
         refine GX.q (.bool (decide (c0.Proto = 0))) ?_
         refine GX.m rfl ?_
         rcases bool_two (decide (c0.Proto = 0)) with hb9 | hb9
         ·rw [hb9]; try simp only [hb9, bb] at hR
          iterate 3 refine GX.skip rfl rfl ?_
          refine GX.q (.bool false) ?_
          refine GX.m rfl ?_
          refine GX.q (.ptr 0 2) ?_
          refine GX.q (.int .i64 c0.Proto) ?_
          refine GX.q (.bool (!decide (c0.Proto = 0))) ?_
          refine GX.m rfl ?_
          rw [hb9]
          refine GX.q (.ptr 0 4) ?_
          refine GX.q (.int .i64 c0.Dist) ?_
          generalize hc60 : F29_crossroadsref25_in c0.Dist 1 255 = c60 at hR
          try dsimp only at hR
          refine GX.callp (r := .bool c60) rfl rfl rfl (f29_ok c0.Dist 1 255 _ hc60) rfl rfl ?_
          iterate 2 refine GX.q (.bool c60) ?_
          refine GX.m rfl ?_
          refine GX.done ?_
          refine WK.ret ?_
          subst hR
          exact RetQ.fr [] (.inr rfl) rfl rfl rfl rfl
         ·rw [hb9]; try simp only [hb9, bb] at hR
          refine GX.q (.ptr 0 4) ?_
          refine GX.q (.int .i64 c0.Dist) ?_
          iterate 2 refine GX.q (.bool (decide (c0.Dist = 0))) ?_
          refine GX.m rfl ?_
          rcases bool_two (decide (c0.Dist = 0)) with hb10 | hb10
          ·rw [hb10]; try simp only [hb10, bb] at hR
           refine GX.q (.ptr 0 2) ?_
           refine GX.q (.int .i64 c0.Proto) ?_
           refine GX.q (.bool (!decide (c0.Proto = 0))) ?_
           refine GX.m rfl ?_
           rw [hb9]
           iterate 3 refine GX.skip rfl rfl ?_
           iterate 2 refine GX.q (.bool false) ?_
           refine GX.m rfl ?_
           refine GX.done ?_
           refine WK.ret ?_
           subst hR
           exact RetQ.fr [] (.inr rfl) rfl rfl rfl rfl
          ·rw [hb10]; try simp only [hb10, bb] at hR
           iterate 8 refine GX.skip rfl rfl ?_
           refine GX.q (.bool true) ?_
           refine GX.m rfl ?_
           refine GX.done ?_
           refine WK.ret ?_
           subst hR
           exact RetQ.fr [] (.inr rfl) rfl rfl rfl rfl
       ·rw [hb7]; try simp only [hb7, bb] at hR
        iterate 3 refine GX.skip rfl rfl ?_
        refine GX.q (.bool false) ?_
        refine GX.done ?_
        refine WK.condF rfl ?_
        refine WK.skip ?_
        refine WK.sr mixed ?_
        refine GX.q (.ptr 0 2) ?_
        refine GX.q (.int .i64 c0.Proto) ?_
        refine GX.q (.bool (decide (c0.Proto = 0))) ?_
        refine GX.m rfl ?_
        rcases bool_two (decide (c0.Proto = 0)) with hb11 | hb11
        ·rw [hb11]; try simp only [hb11, bb] at hR
         iterate 3 refine GX.skip rfl rfl ?_
         refine GX.q (.bool false) ?_
         refine GX.m rfl ?_
         refine GX.q (.ptr 0 2) ?_
         refine GX.q (.int .i64 c0.Proto) ?_
         refine GX.q (.bool (!decide (c0.Proto = 0))) ?_
         refine GX.m rfl ?_
         rw [hb11]
         refine GX.q (.ptr 0 4) ?_
         refine GX.q (.int .i64 c0.Dist) ?_
         generalize hc60 : F29_crossroadsref25_in c0.Dist 1 255 = c60 at hR
         try dsimp only at hR
         refine GX.callp (r := .bool c60) rfl rfl rfl (f29_ok c0.Dist 1 255 _ hc60) rfl rfl ?_
         iterate 2 refine GX.q (.bool c60) ?_
         refine GX.m rfl ?_
         refine GX.done ?_
         refine WK.ret ?_
         subst hR
         exact RetQ.fr [] (.inr rfl) rfl rfl rfl rfl
        ·rw [hb11]; try simp only [hb11, bb] at hR
         refine GX.q (.ptr 0 4) ?_
         refine GX.q (.int .i64 c0.Dist) ?_
         iterate 2 refine GX.q (.bool (decide (c0.Dist = 0))) ?_
         refine GX.m rfl ?_
         rcases bool_two (decide (c0.Dist = 0)) with hb12 | hb12
         ·rw [hb12]; try simp only [hb12, bb] at hR
          refine GX.q (.ptr 0 2) ?_
          refine GX.q (.int .i64 c0.Proto) ?_
          refine GX.q (.bool (!decide (c0.Proto = 0))) ?_
          refine GX.m rfl ?_
          rw [hb11]
          iterate 3 refine GX.skip rfl rfl ?_
          iterate 2 refine GX.q (.bool false) ?_
          refine GX.m rfl ?_
          refine GX.done ?_
          refine WK.ret ?_
          subst hR
          exact RetQ.fr [] (.inr rfl) rfl rfl rfl rfl
         ·rw [hb12]; try simp only [hb12, bb] at hR
          iterate 8 refine GX.skip rfl rfl ?_
          refine GX.q (.bool true) ?_
          refine GX.m rfl ?_
          refine GX.done ?_
          refine WK.ret ?_
          subst hR
          exact RetQ.fr [] (.inr rfl) rfl rfl rfl rfl
    ·rw [hb4]; try simp only [hb4, bb] at hR
     iterate 4 refine GX.skip rfl rfl ?_
     refine GX.q (.bool true) ?_
     refine GX.m rfl ?_
     iterate 5 refine GX.skip rfl rfl ?_
     refine GX.q (.bool true) ?_
     refine GX.done ?_
     refine WK.condT rfl ?_
     refine WK.sr mixed ?_
     refine GX.m rfl ?_
     refine GX.done ?_
     refine WK.ret ?_
     subst hR
     exact RetQ.fr [] (.inr rfl) rfl rfl rfl rfl

theorem f30_ok (h0 : THop) (R : THop) (hR : F30_crossroadslaw25_hop h0 = R) : FnOk Try.prog 30 [.agg (THop.c h0)] [] 0 (.agg (THop.c R)) [] 0 := by
 refine FnOk.wk i30 rfl rfl ?_
 unfold F30_crossroadslaw25_hop at hR
 change WK _ _ _ [ac30] _ ⟨[(0, .agg (THop.c h0))], [], 0⟩
 unfold ac30
 refine WK.sr mixed ?_
 refine GX.step (v' := .ptr 0 0) (heap' := [(0, .box (THop.c h0))]) (next' := 1) rfl rfl rfl rfl rfl rfl rfl ?_
 refine GX.step (v' := .ptr 1 0) (heap' := [(0, .box (THop.c h0)), (1, .box [.int .i64 0, .int .u32 0])]) (next' := 2) rfl rfl rfl rfl rfl rfl rfl ?_
 refine GX.done ?_
 refine WK.sr mixed ?_
 refine GX.q (.ptr 0 0) ?_
 refine GX.q (.int .i64 h0.Iface) ?_
 refine GX.q (.ptr 0 1) ?_
 refine GX.q (.int .u32 h0.Gate) ?_
 refine GX.q (.agg (THop.c h0)) ?_
 refine GX.step0 (heap' := [(0, .box (THop.c h0)), (1, .box (THop.c h0))]) (next' := 2) rfl rfl rfl rfl rfl ?_
 refine GX.done ?_
 refine WK.ret ?_
 subst hR
 exact RetQ.fr [] (.inr rfl) rfl rfl rfl rfl

theorem f10_ok (c0 : TCand) (R : TCand) (hR : F10_crossroadslaw25_plain c0 = some R) : FnOk Try.prog 10 [.agg (TCand.c c0)] [] 0 (.agg (TCand.c R)) [] 0 := by
 refine FnOk.wk i10 rfl rfl ?_
 unfold F10_crossroadslaw25_plain at hR
 try dsimp only at hR
 change WK _ _ _ [ac10] _ ⟨[(0, .agg (TCand.c c0))], [], 0⟩
 unfold ac10
 refine WK.sr mixed ?_
 refine GX.step (v' := .ptr 0 0) (heap' := [(0, .box (TCand.c c0))]) (next' := 1) rfl rfl rfl rfl rfl rfl rfl ?_
 refine GX.step (v' := .ptr 1 0) (heap' := [(0, .box (TCand.c c0)), (1, .box [.int .u32 0, .int .i64 0, .int .i64 0, .int .i64 0, .int .i64 0, .int .i64 0, .int .u32 0, .bool false, .int .i64 0, .nils])]) (next' := 2) rfl rfl rfl rfl rfl rfl rfl ?_
 refine GX.done ?_
 refine WK.sr mixed ?_
 refine GX.step (v' := .own 2 2 0 (([] : List THop)).length) (heap' := [(0, .box (TCand.c c0)), (1, .box [.int .u32 0, .int .i64 0, .int .i64 0, .int .i64 0, .int .i64 0, .int .i64 0, .int .u32 0, .bool false, .int .i64 0, .nils]), (2, .row 2 64 (([] : List THop).map THop.c))]) (next' := 3) rfl rfl rfl rfl rfl rfl rfl ?_
 refine GX.m rfl ?_
 refine GX.done ?_
 refine WK.seq ?_
 refine WK.sr mixed ?_
 refine GX.m rfl ?_
 refine GX.done ?_
 refine WK.lenb (id := 0) (j := 9) rfl rfl (by simp) (fun hlen_4 => ?_)
 rw [List.length_map] at hlen_4
 generalize hZ_4 : F10_crossroadslaw25_plain_l1 ([] : List THop) c0.Hops = Z_4 at hR
 refine WK.forK (fun k s => ∃ (i4 : Nat) (h3 : List THop), i4 ≤ c0.Hops.length ∧ k = c0.Hops.length - i4 ∧ F10_crossroadslaw25_plain_l1 h3 (c0.Hops.drop i4) = Z_4 ∧ s = ⟨[(1, .ptr 0 0), (2, .ptr 1 0), (3, .own 2 2 0 h3.length), (4, .int .i64 (i4 : Int))], [(0, .box (TCand.c c0)), (1, .box [.int .u32 0, .int .i64 0, .int .i64 0, .int .i64 0, .int .i64 0, .int .i64 0, .int .u32 0, .bool false, .int .i64 0, .nils]), (2, .row 2 64 (h3.map THop.c))], 3⟩) c0.Hops.length ⟨⟨[(1, .ptr 0 0), (2, .ptr 1 0), (3, .own 2 2 0 ([] : List THop).length), (4, .int .i64 (0 : Int))], [(0, .box (TCand.c c0)), (1, .box [.int .u32 0, .int .i64 0, .int .i64 0, .int .i64 0, .int .i64 0, .int .i64 0, .int .u32 0, .bool false, .int .i64 0, .nils]), (2, .row 2 64 (([] : List THop).map THop.c))], 3⟩, Conv.keep [0, 1, 2] [] [1, 2, 3, 4] rfl rfl (viewE_cons rfl rfl (viewE_cons rfl rfl (viewE_cons rfl rfl (viewE_cons rfl rfl viewE_nil)))) rfl rfl, 0, ([] : List THop), (by omega), rfl, hZ_4, rfl⟩ ?_
 rintro _ _ ⟨i4, h3, hi_4, rfl, hL_4, rfl⟩ again_4 out_4 Q_4 hagain_4 hout_4 hQ_4
 refine WK.seq ?_
 refine WK.sr mixed ?_
 refine GX.m rfl ?_
 refine GX.q (.ptr 0 9) ?_
 refine GX.q (.ro 2 (c0.Hops.map THop.c)) ?_
 refine GX.pure (v' := .int .i64 (c0.Hops.length : Int)) rfl rfl rfl rfl (len_map _ _) ?_
 refine GX.q (.bool (decide ((i4 : Int) < (c0.Hops.length : Int)))) ?_
 refine GX.done ?_
 rcases bool_two (decide ((i4 : Int) < (c0.Hops.length : Int))) with hb5 | hb5
 ·rw [hb5]
  rw [drop_end hb5, F10_crossroadslaw25_plain_l1] at hL_4
  refine WK.condF rfl ?_
  refine WK.exit ?_
  refine QF.exit (hout_4 _ ?_)
  subst hL_4
  try dsimp only [cond_true, cond_false] at hR
  refine WK.sr mixed ?_
  refine GX.q (.ptr 0 0) ?_
  refine GX.q (.agg [.int .u32 c0.P.A, .int .i64 c0.P.N]) ?_
  refine GX.q (.ptr 0 2) ?_
  refine GX.q (.int .i64 c0.Proto) ?_
  refine GX.q (.ptr 0 3) ?_
  refine GX.q (.int .i64 c0.Inst) ?_
  refine GX.q (.ptr 0 4) ?_
  refine GX.q (.int .i64 c0.Dist) ?_
  refine GX.q (.ptr 0 5) ?_
  refine GX.q (.int .i64 c0.Metric) ?_
  refine GX.q (.ptr 0 6) ?_
  refine GX.q (.int .u32 c0.Tag) ?_
  refine GX.q (.ptr 0 7) ?_
  refine GX.q (.bool c0.Leaked) ?_
  refine GX.q (.ptr 0 8) ?_
  refine GX.q (.int .i64 c0.From) ?_
  refine GX.m rfl ?_
  refine GX.q (.agg [.int .u32 c0.P.A, .int .i64 c0.P.N, .int .i64 c0.Proto, .int .i64 c0.Inst, .int .i64 c0.Dist, .int .i64 c0.Metric, .int .u32 c0.Tag, .bool c0.Leaked, .int .i64 c0.From, .own 2 2 0 h3.length]) ?_
  refine GX.step0 (heap' := [(0, .box (TCand.c c0)), (1, .box [.int .u32 c0.P.A, .int .i64 c0.P.N, .int .i64 c0.Proto, .int .i64 c0.Inst, .int .i64 c0.Dist, .int .i64 c0.Metric, .int .u32 c0.Tag, .bool c0.Leaked, .int .i64 c0.From, .own 2 2 0 h3.length]), (2, .row 2 64 (h3.map THop.c))]) (next' := 3) rfl rfl rfl rfl rfl ?_
  refine GX.done ?_
  refine WK.ret ?_
  obtain rfl := Option.some.inj hR
  exact RetQ.fr [2] (.inr rfl) rfl rfl (viewGo_cons (viewP_agg (viewGo_cons rfl (viewGo_cons rfl (viewGo_cons rfl (viewGo_cons rfl (viewGo_cons rfl (viewGo_cons rfl (viewGo_cons rfl (viewGo_cons rfl (viewGo_cons rfl (viewGo_cons (view_rowT rfl rfl) viewGo_nil))))))))))) viewGo_nil) rfl
 ·rw [hb5]
  obtain ⟨x4, hx4, hd4, hlt4⟩ := drop_more hb5
  rw [hd4, F10_crossroadslaw25_plain_l1] at hL_4
  refine WK.condT rfl ?_
  refine WK.skip ?_
  refine WK.seq ?_
  refine WK.blockK (fun _ hK6 => ?_)
  refine WK.regx mixed ?_
  refine GX.m rfl ?_
  refine GX.q (.ptr 0 9) ?_
  refine GX.q (.ro 2 (c0.Hops.map THop.c)) ?_
  refine GX.m rfl ?_
  refine GX.idxT (c := THop.c) (x := x4) rfl rfl rfl (Int.natCast_nonneg _) hx4 ?_
  refine GX.q (.agg (THop.c x4)) ?_
  generalize hc19 : F30_crossroadslaw25_hop x4 = c19 at hL_4
  try dsimp only at hL_4
  refine GX.callp (r := .agg [.int .i64 c19.Iface, .int .u32 c19.Gate]) rfl rfl rfl (f30_ok x4 _ hc19) rfl rfl ?_
  refine GX.step (v' := .own 3 2 0 (([c19] : List THop)).length) (heap' := [(0, .box (TCand.c c0)), (1, .box [.int .u32 0, .int .i64 0, .int .i64 0, .int .i64 0, .int .i64 0, .int .i64 0, .int .u32 0, .bool false, .int .i64 0, .nils]), (2, .row 2 64 (h3.map THop.c)), (3, .row 2 64 (([c19] : List THop).map THop.c))]) (next' := 4) rfl rfl rfl rfl rfl rfl rfl ?_
  rcases bool_two (decide (h3.length < 1099511627776)) with hg7 | hg7
  ·simp only [hg7, bb] at hL_4
   try dsimp only at hL_4
   subst hL_4
   try dsimp only at hR
   cases hR
  simp only [hg7, bb] at hL_4
  have hg7_ := of_decide_eq_true hg7
  refine GX.appT (c := THop.c) (L := h3) (X := ([c19] : List THop)) (heap' := [(0, .box (TCand.c c0)), (1, .box [.int .u32 0, .int .i64 0, .int .i64 0, .int .i64 0, .int .i64 0, .int .i64 0, .int .u32 0, .bool false, .int .i64 0, .nils]), (3, .row 2 64 (([c19] : List THop).map THop.c)), (4, .row 2 64 ((h3 ++ ([c19] : List THop)).map THop.c))]) (next' := 5) rfl rfl rfl rfl (elems_own rfl) (by ((try simp only [List.length_append, List.length_cons, List.length_nil, List.length_map, decide_eq_true_eq, decide_eq_false_iff_not] at *) <;> omega)) (by ((try simp only [List.length_append, List.length_cons, List.length_nil, List.length_map, decide_eq_true_eq, decide_eq_false_iff_not] at *) <;> omega)) rfl rfl rfl rfl ?_
  refine GX.m rfl ?_
  refine GX.done ?_
  refine WK.nil (QF.normal (hK6 _ ?_))
  refine WK.regx mixed ?_
  refine GX.m rfl ?_
  refine GX.pure (v' := .int .i64 ((i4 + 1 : Nat) : Int)) rfl rfl rfl rfl (congrArg (PVal.int .i64) (wrap_up hlt4 hlen_4)) ?_
  refine GX.m rfl ?_
  refine GX.done ?_
  refine WK.nil (QF.normal ?_)
  exact hagain_4 _ (c0.Hops.length - (i4 + 1)) ⟨[(1, .ptr 0 0), (2, .ptr 1 0), (3, .own 2 2 0 (h3 ++ ([c19] : List THop)).length), (4, .int .i64 ((i4 + 1) : Int))], [(0, .box (TCand.c c0)), (1, .box [.int .u32 0, .int .i64 0, .int .i64 0, .int .i64 0, .int .i64 0, .int .i64 0, .int .u32 0, .bool false, .int .i64 0, .nils]), (2, .row 2 64 ((h3 ++ ([c19] : List THop)).map THop.c))], 3⟩ (by omega) (Conv.keep [0, 1, 4] [] [1, 2, 3, 4] rfl rfl (viewE_cons rfl rfl (viewE_cons rfl rfl (viewE_cons rfl rfl (viewE_cons rfl rfl viewE_nil)))) rfl rfl) ⟨i4 + 1, (h3 ++ ([c19] : List THop)), (by omega), rfl, hL_4, rfl⟩

theorem f14_ok (a0 : TCand) (b1 : TCand) (R : Bool) (hR : F14_rib_Less a0 b1 = R) : FnOk Try.prog 14 [.agg (TCand.c a0), .agg (TCand.c b1)] [] 0 (.bool R) [] 0 := by
 refine FnOk.wk i14 rfl rfl ?_
 unfold F14_rib_Less at hR
 change WK _ _ _ [ac14] _ ⟨[(0, .agg (TCand.c a0)), (1, .agg (TCand.c b1))], [], 0⟩
 unfold ac14
 refine WK.sr mixed ?_
 refine GX.step (v' := .ptr 0 0) (heap' := [(0, .box (TCand.c a0))]) (next' := 1) rfl rfl rfl rfl rfl rfl rfl ?_
 refine GX.step (v' := .ptr 1 0) (heap' := [(0, .box (TCand.c a0)), (1, .box (TCand.c b1))]) (next' := 2) rfl rfl rfl rfl rfl rfl rfl ?_
 refine GX.m rfl ?_
 refine GX.done ?_
 refine WK.sr mixed ?_
 refine GX.q (.agg (TCand.c a0)) ?_
 refine GX.q (.agg (TCand.c b1)) ?_
 generalize hc7 : F31_rib_byKey a0 b1 = c7 at hR
 try dsimp only at hR
 refine GX.callp (r := .int .i64 c7) rfl rfl rfl (f31_ok a0 b1 _ hc7) rfl rfl ?_
 refine GX.q (.bool (decide (c7 < 0))) ?_
 refine GX.m rfl ?_
 refine GX.done ?_
 refine WK.ret ?_
 subst hR
 exact RetQ.fr [] (.inr rfl) rfl rfl rfl rfl

theorem f11_ok (t0 : TTable) (R : Bool) (hR : F11_rib_MayAll t0 = R) : FnOk Try.prog 11 [.agg (TTable.c t0)] [] 0 (.bool R) [] 0 := by
 refine FnOk.wk i11 rfl rfl ?_
 unfold F11_rib_MayAll at hR
 change WK _ _ _ [ac11] _ ⟨[(0, .agg (TTable.c t0))], [], 0⟩
 unfold ac11
 refine WK.sr mixed ?_
 refine GX.step (v' := .ptr 0 0) (heap' := [(0, .box (TTable.c t0))]) (next' := 1) rfl rfl rfl rfl rfl rfl rfl ?_
 refine GX.m rfl ?_
 refine GX.done ?_
 refine WK.seq ?_
 refine WK.sr mixed ?_
 refine GX.q (.ptr 0 0) ?_
 refine GX.q (.ro 10 (t0.L.map TCand.c)) ?_
 refine GX.pure (v' := .int .i64 (t0.L.length : Int)) rfl rfl rfl rfl (len_map _ _) ?_
 refine GX.m rfl ?_
 refine GX.done ?_
 refine WK.len (t := 6) rfl (by simp) (fun hlen_1 => ?_)
 rw [List.length_map] at hlen_1
 generalize hZ_1 : F11_rib_MayAll_l1 t0 0 t0.L = Z_1 at hR
 refine WK.forK (fun k s => ∃ (i8 : Nat), i8 ≤ t0.L.length ∧ k = t0.L.length - i8 ∧ F11_rib_MayAll_l1 t0 i8 (t0.L.drop i8) = Z_1 ∧ s = ⟨[(1, .ptr 0 0), (6, .ro 10 (t0.L.map TCand.c)), (7, .int .i64 (t0.L.length : Int)), (8, .int .i64 (i8 : Int))], [(0, .box (TTable.c t0))], 1⟩) t0.L.length ⟨⟨[(1, .ptr 0 0), (6, .ro 10 (t0.L.map TCand.c)), (7, .int .i64 (t0.L.length : Int)), (8, .int .i64 (0 : Int))], [(0, .box (TTable.c t0))], 1⟩, Conv.keep [0] [] [1, 6, 7, 8] rfl rfl (viewE_cons rfl rfl (viewE_cons rfl rfl (viewE_cons rfl rfl (viewE_cons rfl rfl viewE_nil)))) rfl rfl, 0, (by omega), rfl, hZ_1, rfl⟩ ?_
 rintro _ _ ⟨i8, hi_1, rfl, hL_1, rfl⟩ again_1 out_1 Q_1 hagain_1 hout_1 hQ_1
 refine WK.sr mixed ?_
 refine GX.q (.bool (decide ((i8 : Int) < (t0.L.length : Int)))) ?_
 refine GX.done ?_
 refine WK.seq ?_
 rcases bool_two (decide ((i8 : Int) < (t0.L.length : Int))) with hb2 | hb2
 ·rw [hb2]
  rw [drop_end hb2, F11_rib_MayAll_l1] at hL_1
  refine WK.condF rfl ?_
  refine WK.exit ?_
  refine QF.exit (hout_1 _ ?_)
  subst hL_1
  try dsimp only [cond_true, cond_false] at hR
  refine WK.sr mixed ?_
  refine GX.q (.ptr 0 0) ?_
  refine GX.q (.ro 10 (t0.L.map TCand.c)) ?_
  refine GX.pure (v' := .int .i64 (t0.L.length : Int)) rfl rfl rfl rfl (len_map _ _) ?_
  refine GX.q (.bool (decide ((t0.L.length : Int) ≤ 500))) ?_
  refine GX.m rfl ?_
  refine GX.done ?_
  refine WK.ret ?_
  subst hR
  exact RetQ.fr [] (.inr rfl) rfl rfl rfl rfl
 ·rw [hb2]
  obtain ⟨x8, hx1, hd1, hlt1⟩ := drop_more hb2
  rw [hd1, F11_rib_MayAll_l1] at hL_1
  refine WK.condT rfl ?_
  refine WK.skip ?_
  refine WK.seq ?_
  refine WK.blockK (fun _ hK3 => ?_)
  refine WK.sr mixed ?_
  refine GX.m rfl ?_
  refine GX.idxT (c := TCand.c) (x := x8) rfl rfl rfl (Int.natCast_nonneg _) hx1 ?_
  refine GX.q (.agg (TCand.c x8)) ?_
  refine GX.step (v' := .ptr 1 0) (heap' := [(0, .box (TTable.c t0)), (1, .box [.int .u32 0, .int .i64 0, .int .i64 0, .int .i64 0, .int .i64 0, .int .i64 0, .int .u32 0, .bool false, .int .i64 0, .nils])]) (next' := 2) rfl rfl rfl rfl rfl rfl rfl ?_
  refine GX.m rfl ?_
  refine GX.step0 (heap' := [(0, .box (TTable.c t0)), (1, .box (TCand.c x8))]) (next' := 2) rfl rfl rfl rfl rfl ?_
  refine GX.done ?_
  refine WK.seq ?_
  refine WK.drawn mixed ?_
  refine RD.q (.agg (TCand.c x8)) ?_
  generalize hc14 : F8_rib_May x8 = c14 at hL_1
  try dsimp only at hL_1
  refine RD.callp (r := .bool c14) rfl rfl rfl (f8_ok x8 _ hc14) rfl rfl ?_
  refine RD.q (.bool (!c14)) ?_
  refine RD.m rfl ?_
  rcases bool_two (c14) with hb4 | hb4
  ·rw [hb4]; try simp only [hb4, bb] at hL_1
   iterate 13 refine RD.skip rfl rfl ?_
   refine RD.q (.bool true) ?_
   refine RD.done rfl ?_
   refine WK.condT rfl ?_
   refine WK.sr mixed ?_
   refine GX.m rfl ?_
   refine GX.done ?_
   refine WK.ret ?_
   refine QF.ret ?_
   refine QF.ret (hQ_1 _ _ ?_)
   subst hL_1
   subst hR
   exact RetQ.fr [] (.inr rfl) rfl rfl rfl rfl
  ·rw [hb4]; try simp only [hb4, bb] at hL_1
   refine RD.m rfl ?_
   refine RD.q (.bool (decide (0 < (i8 : Int)))) ?_
   refine RD.m rfl ?_
   rcases bool_two (decide (0 < (i8 : Int))) with hb5 | hb5
   ·rw [hb5]; try simp only [hb5, bb] at hL_1
    iterate 9 refine RD.skip rfl rfl ?_
    iterate 2 refine RD.q (.bool false) ?_
    refine RD.done rfl ?_
    refine WK.condF rfl ?_
    refine WK.skip ?_
    refine WK.nil (QF.normal (hK3 _ ?_))
    refine WK.regx mixed ?_
    refine GX.pure (v' := .int .i64 ((i8 + 1 : Nat) : Int)) rfl rfl rfl rfl (congrArg (PVal.int .i64) (wrap_up hlt1 hlen_1)) ?_
    refine GX.m rfl ?_
    refine GX.done ?_
    refine WK.nil (QF.normal ?_)
    exact hagain_1 _ (t0.L.length - (i8 + 1)) ⟨[(1, .ptr 0 0), (6, .ro 10 (t0.L.map TCand.c)), (7, .int .i64 (t0.L.length : Int)), (8, .int .i64 ((i8 + 1) : Int))], [(0, .box (TTable.c t0))], 1⟩ (by omega) (Conv.keep [0] [] [1, 6, 7, 8] rfl rfl (viewE_cons rfl rfl (viewE_cons rfl rfl (viewE_cons rfl rfl (viewE_cons rfl rfl viewE_nil)))) rfl rfl) ⟨i8 + 1, (by omega), rfl, hL_1, rfl⟩
   ·rw [hb5]; try simp only [hb5, bb] at hL_1
    refine RD.q (.ptr 0 0) ?_
    refine RD.q (.ro 10 (t0.L.map TCand.c)) ?_
    refine RD.m rfl ?_
    refine RD.pure (v' := .int .i64 ((i8 - 1 : Nat) : Int)) rfl rfl rfl rfl (congrArg (PVal.int .i64) (wrap_down hb5 hlt1 hlen_1)) ?_
    refine RD.idxT (c := TCand.c) (x := (t0.L.getD (i8 - 1) default)) rfl rfl rfl (Int.natCast_nonneg _) (getD_at (by omega)) ?_
    refine RD.q (.agg [.int .u32 (((t0.L.getD (i8 - 1) default).P).A), .int .i64 (((t0.L.getD (i8 - 1) default).P).N), .int .i64 ((t0.L.getD (i8 - 1) default).Proto), .int .i64 ((t0.L.getD (i8 - 1) default).Inst), .int .i64 ((t0.L.getD (i8 - 1) default).Dist), .int .i64 ((t0.L.getD (i8 - 1) default).Metric), .int .u32 ((t0.L.getD (i8 - 1) default).Tag), .bool ((t0.L.getD (i8 - 1) default).Leaked), .int .i64 ((t0.L.getD (i8 - 1) default).From), .ro 2 (((t0.L.getD (i8 - 1) default).Hops).map THop.c)]) ?_
    refine RD.q (.agg (TCand.c x8)) ?_
    generalize hc27 : F14_rib_Less (⟨((t0.L.getD (i8 - 1) default).P), (t0.L.getD (i8 - 1) default).Proto, (t0.L.getD (i8 - 1) default).Inst, (t0.L.getD (i8 - 1) default).Dist, (t0.L.getD (i8 - 1) default).Metric, (t0.L.getD (i8 - 1) default).Tag, (t0.L.getD (i8 - 1) default).Leaked, (t0.L.getD (i8 - 1) default).From, (t0.L.getD (i8 - 1) default).Hops⟩ : TCand) x8 = c27 at hL_1
    try dsimp only at hL_1
    refine RD.callp (r := .bool c27) rfl rfl rfl (f14_ok (⟨((t0.L.getD (i8 - 1) default).P), (t0.L.getD (i8 - 1) default).Proto, (t0.L.getD (i8 - 1) default).Inst, (t0.L.getD (i8 - 1) default).Dist, (t0.L.getD (i8 - 1) default).Metric, (t0.L.getD (i8 - 1) default).Tag, (t0.L.getD (i8 - 1) default).Leaked, (t0.L.getD (i8 - 1) default).From, (t0.L.getD (i8 - 1) default).Hops⟩ : TCand) x8 _ hc27) rfl rfl ?_
    iterate 3 refine RD.q (.bool (!c27)) ?_
    refine RD.done rfl ?_
    rcases bool_two (c27) with hb6 | hb6
    ·rw [hb6]; try simp only [hb6, bb] at hL_1
     refine WK.condT rfl ?_
     refine WK.sr mixed ?_
     refine GX.m rfl ?_
     refine GX.done ?_
     refine WK.ret ?_
     refine QF.ret ?_
     refine QF.ret (hQ_1 _ _ ?_)
     subst hL_1
     subst hR
     exact RetQ.fr [] (.inr rfl) rfl rfl rfl rfl
    ·rw [hb6]; try simp only [hb6, bb] at hL_1
     refine WK.condF rfl ?_
     refine WK.skip ?_
     refine WK.nil (QF.normal (hK3 _ ?_))
     refine WK.regx mixed ?_
     refine GX.pure (v' := .int .i64 ((i8 + 1 : Nat) : Int)) rfl rfl rfl rfl (congrArg (PVal.int .i64) (wrap_up hlt1 hlen_1)) ?_
     refine GX.m rfl ?_
     refine GX.done ?_
     refine WK.nil (QF.normal ?_)
     exact hagain_1 _ (t0.L.length - (i8 + 1)) ⟨[(1, .ptr 0 0), (6, .ro 10 (t0.L.map TCand.c)), (7, .int .i64 (t0.L.length : Int)), (8, .int .i64 ((i8 + 1) : Int))], [(0, .box (TTable.c t0))], 1⟩ (by omega) (Conv.keep [0] [] [1, 6, 7, 8] rfl rfl (viewE_cons rfl rfl (viewE_cons rfl rfl (viewE_cons rfl rfl (viewE_cons rfl rfl viewE_nil)))) rfl rfl) ⟨i8 + 1, (by omega), rfl, hL_1, rfl⟩

theorem f32_ok (a0 : TS) (b1 : TS) (R : Int) (hR : F32_crossroadsref25_first a0 b1 = R) : FnOk Try.prog 32 [.agg (TS.c a0), .agg (TS.c b1)] [] 0 (.int .i64 R) [] 0 := by
 refine FnOk.wk i32 rfl rfl ?_
 unfold F32_crossroadsref25_first at hR
 change WK _ _ _ [ac32] _ ⟨[(0, .agg (TS.c a0)), (1, .agg (TS.c b1))], [], 0⟩
 unfold ac32
 refine WK.sr mixed ?_
 refine GX.step (v' := .ptr 0 0) (heap' := [(0, .box (TS.c a0))]) (next' := 1) rfl rfl rfl rfl rfl rfl rfl ?_
 refine GX.step (v' := .ptr 1 0) (heap' := [(0, .box (TS.c a0)), (1, .box (TS.c b1))]) (next' := 2) rfl rfl rfl rfl rfl rfl rfl ?_
 refine GX.m rfl ?_
 refine GX.done ?_
 refine WK.seq ?_
 refine WK.sr mixed ?_
 refine GX.m rfl ?_
 refine GX.done ?_
 refine WK.unroll 8 (WU.go ?_)
 refine WK.seq ?_
 refine WK.sr mixed ?_
 refine GX.m rfl ?_
 refine GX.q (.bool true) ?_
 refine GX.done ?_
 refine WK.condT rfl ?_
 refine WK.skip ?_
 refine WK.seq ?_
 refine WK.blockK (fun _ hK2 => ?_)
 iterate 2 refine WK.seq ?_
 refine WK.drawn mixed ?_
 refine RD.m rfl ?_
 refine RD.q (.ptr 0 0) ?_
 refine RD.q (.int .i64 a0.e0) ?_
 refine RD.m rfl ?_
 refine RD.q (.ptr 1 0) ?_
 refine RD.q (.int .i64 b1.e0) ?_
 refine RD.q (.bool (decide (a0.e0 < b1.e0))) ?_
 refine RD.done rfl ?_
 rcases bool_two (decide (a0.e0 < b1.e0)) with hb3 | hb3
 ·rw [hb3]; try simp only [hb3, bb] at hR
  refine WK.condF rfl ?_
  refine WK.skip ?_
  refine WK.seq ?_
  refine WK.drawn mixed ?_
  refine RD.m rfl ?_
  refine RD.q (.ptr 0 0) ?_
  refine RD.q (.int .i64 a0.e0) ?_
  refine RD.m rfl ?_
  refine RD.q (.ptr 1 0) ?_
  refine RD.q (.int .i64 b1.e0) ?_
  refine RD.q (.bool (decide (b1.e0 < a0.e0))) ?_
  refine RD.done rfl ?_
  rcases bool_two (decide (b1.e0 < a0.e0)) with hb4 | hb4
  ·rw [hb4]; try simp only [hb4, bb] at hR
   refine WK.condF rfl ?_
   refine WK.skip ?_
   refine WK.nil (QF.normal (hK2 _ ?_))
   refine WK.regx mixed ?_
   refine GX.m rfl ?_
   refine GX.q (.int .i64 1) ?_
   refine GX.m rfl ?_
   refine GX.done ?_
   refine WK.nil (QF.normal (WU.go ?_))
   refine WK.seq ?_
   refine WK.sr mixed ?_
   refine GX.m rfl ?_
   refine GX.q (.bool true) ?_
   refine GX.done ?_
   refine WK.condT rfl ?_
   refine WK.skip ?_
   refine WK.seq ?_
   refine WK.blockK (fun _ hK5 => ?_)
   iterate 2 refine WK.seq ?_
   refine WK.drawn mixed ?_
   refine RD.m rfl ?_
   refine RD.q (.ptr 0 1) ?_
   refine RD.q (.int .i64 a0.e1) ?_
   refine RD.m rfl ?_
   refine RD.q (.ptr 1 1) ?_
   refine RD.q (.int .i64 b1.e1) ?_
   refine RD.q (.bool (decide (a0.e1 < b1.e1))) ?_
   refine RD.done rfl ?_
   rcases bool_two (decide (a0.e1 < b1.e1)) with hb6 | hb6
   ·rw [hb6]; try simp only [hb6, bb] at hR
    refine WK.condF rfl ?_
    refine WK.skip ?_
    refine WK.seq ?_
    refine WK.drawn mixed ?_
    refine RD.m rfl ?_
    refine RD.q (.ptr 0 1) ?_
    refine RD.q (.int .i64 a0.e1) ?_
    refine RD.m rfl ?_
    refine RD.q (.ptr 1 1) ?_
    refine RD.q (.int .i64 b1.e1) ?_
    refine RD.q (.bool (decide (b1.e1 < a0.e1))) ?_
    refine RD.done rfl ?_
    rcases bool_two (decide (b1.e1 < a0.e1)) with hb7 | hb7
    ·rw [hb7]; try simp only [hb7, bb] at hR
     refine WK.condF rfl ?_
     refine WK.skip ?_
     refine WK.nil (QF.normal (hK5 _ ?_))
     refine WK.regx mixed ?_
     refine GX.m rfl ?_
     refine GX.q (.int .i64 2) ?_
     refine GX.m rfl ?_
     refine GX.done ?_
     refine WK.nil (QF.normal (WU.go ?_))
     refine WK.seq ?_
     refine WK.sr mixed ?_
     refine GX.m rfl ?_
     refine GX.q (.bool true) ?_
     refine GX.done ?_
     refine WK.condT rfl ?_
     refine WK.skip ?_
     refine WK.seq ?_
     refine WK.blockK (fun _ hK8 => ?_)
     iterate 2 refine WK.seq ?_
     refine WK.drawn mixed ?_
     refine RD.m rfl ?_
     refine RD.q (.ptr 0 2) ?_
     refine RD.q (.int .i64 a0.e2) ?_
     refine RD.m rfl ?_
     refine RD.q (.ptr 1 2) ?_
     refine RD.q (.int .i64 b1.e2) ?_
     refine RD.q (.bool (decide (a0.e2 < b1.e2))) ?_
     refine RD.done rfl ?_
     rcases bool_two (decide (a0.e2 < b1.e2)) with hb9 | hb9
     ·rw [hb9]; try simp only [hb9, bb] at hR
      refine WK.condF rfl ?_
      refine WK.skip ?_
      refine WK.seq ?_
      refine WK.drawn mixed ?_
      refine RD.m rfl ?_
      refine RD.q (.ptr 0 2) ?_
      refine RD.q (.int .i64 a0.e2) ?_
      refine RD.m rfl ?_
      refine RD.q (.ptr 1 2) ?_
      refine RD.q (.int .i64 b1.e2) ?_
      refine RD.q (.bool (decide (b1.e2 < a0.e2))) ?_
      refine RD.done rfl ?_
      rcases bool_two (decide (b1.e2 < a0.e2)) with hb10 | hb10
      ·rw [hb10]; try simp only [hb10, bb] at hR
       refine WK.condF rfl ?_
       refine WK.skip ?_
       refine WK.nil (QF.normal (hK8 _ ?_))
       refine WK.regx mixed ?_
       refine GX.m rfl ?_
       refine GX.q (.int .i64 3) ?_
       refine GX.m rfl ?_
       refine GX.done ?_
       refine WK.nil (QF.normal (WU.go ?_))
       refine WK.seq ?_
       refine WK.sr mixed ?_
       refine GX.m rfl ?_
       refine GX.q (.bool true) ?_
       refine GX.done ?_
       refine WK.condT rfl ?_
       refine WK.skip ?_
       refine WK.seq ?_
       refine WK.blockK (fun _ hK11 => ?_)
       iterate 2 refine WK.seq ?_
       refine WK.drawn mixed ?_
       refine RD.m rfl ?_
       refine RD.q (.ptr 0 3) ?_
       refine RD.q (.int .i64 a0.e3) ?_
       refine RD.m rfl ?_
       refine RD.q (.ptr 1 3) ?_
       refine RD.q (.int .i64 b1.e3) ?_
       refine RD.q (.bool (decide (a0.e3 < b1.e3))) ?_
       refine RD.done rfl ?_
       rcases bool_two (decide (a0.e3 < b1.e3)) with hb12 | hb12
       ·rw [hb12]; try simp only [hb12, bb] at hR
        refine WK.condF rfl ?_
        refine WK.skip ?_
        refine WK.seq ?_
        refine WK.drawn mixed ?_
        refine RD.m rfl ?_
        refine RD.q (.ptr 0 3) ?_
        refine RD.q (.int .i64 a0.e3) ?_
        refine RD.m rfl ?_
        refine RD.q (.ptr 1 3) ?_
        refine RD.q (.int .i64 b1.e3) ?_
        refine RD.q (.bool (decide (b1.e3 < a0.e3))) ?_
        refine RD.done rfl ?_
        rcases bool_two (decide (b1.e3 < a0.e3)) with hb13 | hb13
        ·rw [hb13]; try simp only [hb13, bb] at hR
         refine WK.condF rfl ?_
         refine WK.skip ?_
         refine WK.nil (QF.normal (hK11 _ ?_))
         refine WK.regx mixed ?_
         refine GX.m rfl ?_
         refine GX.q (.int .i64 4) ?_
         refine GX.m rfl ?_
         refine GX.done ?_
         refine WK.nil (QF.normal (WU.go ?_))
         refine WK.seq ?_
         refine WK.sr mixed ?_
         refine GX.m rfl ?_
         refine GX.q (.bool true) ?_
         refine GX.done ?_
         refine WK.condT rfl ?_
         refine WK.skip ?_
         refine WK.seq ?_
         refine WK.blockK (fun _ hK14 => ?_)
         iterate 2 refine WK.seq ?_
         refine WK.drawn mixed ?_
         refine RD.m rfl ?_
         refine RD.q (.ptr 0 4) ?_
         refine RD.q (.int .i64 a0.e4) ?_
         refine RD.m rfl ?_
         refine RD.q (.ptr 1 4) ?_
         refine RD.q (.int .i64 b1.e4) ?_
         refine RD.q (.bool (decide (a0.e4 < b1.e4))) ?_
         refine RD.done rfl ?_
         rcases bool_two (decide (a0.e4 < b1.e4)) with hb15 | hb15
         ·rw [hb15]; try simp only [hb15, bb] at hR
          refine WK.condF rfl ?_
          refine WK.skip ?_
          refine WK.seq ?_
          refine WK.drawn mixed ?_
          refine RD.m rfl ?_
          refine RD.q (.ptr 0 4) ?_
          refine RD.q (.int .i64 a0.e4) ?_
          refine RD.m rfl ?_
          refine RD.q (.ptr 1 4) ?_
          refine RD.q (.int .i64 b1.e4) ?_
          refine RD.q (.bool (decide (b1.e4 < a0.e4))) ?_
          refine RD.done rfl ?_
          rcases bool_two (decide (b1.e4 < a0.e4)) with hb16 | hb16
          ·rw [hb16]; try simp only [hb16, bb] at hR
           refine WK.condF rfl ?_
           refine WK.skip ?_
           refine WK.nil (QF.normal (hK14 _ ?_))
           refine WK.regx mixed ?_
           refine GX.m rfl ?_
           refine GX.q (.int .i64 5) ?_
           refine GX.m rfl ?_
           refine GX.done ?_
           refine WK.nil (QF.normal (WU.go ?_))
           refine WK.seq ?_
           refine WK.sr mixed ?_
           refine GX.m rfl ?_
           refine GX.q (.bool true) ?_
           refine GX.done ?_
           refine WK.condT rfl ?_
           refine WK.skip ?_
           refine WK.seq ?_
           refine WK.blockK (fun _ hK17 => ?_)
           iterate 2 refine WK.seq ?_
           refine WK.drawn mixed ?_
           refine RD.m rfl ?_
           refine RD.q (.ptr 0 5) ?_
           refine RD.q (.int .i64 a0.e5) ?_
           refine RD.m rfl ?_
           refine RD.q (.ptr 1 5) ?_
           refine RD.q (.int .i64 b1.e5) ?_
           refine RD.q (.bool (decide (a0.e5 < b1.e5))) ?_
           refine RD.done rfl ?_
           rcases bool_two (decide (a0.e5 < b1.e5)) with hb18 | hb18
           ·rw [hb18]; try simp only [hb18, bb] at hR
            refine WK.condF rfl ?_
            refine WK.skip ?_
            refine WK.seq ?_
            refine WK.drawn mixed ?_
            refine RD.m rfl ?_
            refine RD.q (.ptr 0 5) ?_
            refine RD.q (.int .i64 a0.e5) ?_
            refine RD.m rfl ?_
            refine RD.q (.ptr 1 5) ?_
            refine RD.q (.int .i64 b1.e5) ?_
            refine RD.q (.bool (decide (b1.e5 < a0.e5))) ?_
            refine RD.done rfl ?_
            rcases bool_two (decide (b1.e5 < a0.e5)) with hb19 | hb19
            ·rw [hb19]; try simp only [hb19, bb] at hR
             refine WK.condF rfl ?_
             refine WK.skip ?_
             refine WK.nil (QF.normal (hK17 _ ?_))
             refine WK.regx mixed ?_
             refine GX.m rfl ?_
             refine GX.q (.int .i64 6) ?_
             refine GX.m rfl ?_
             refine GX.done ?_
             refine WK.nil (QF.normal (WU.go ?_))
             refine WK.seq ?_
             refine WK.sr mixed ?_
             refine GX.m rfl ?_
             refine GX.q (.bool false) ?_
             refine GX.done ?_
             refine WK.condF rfl ?_
             refine WK.exit ?_
             refine QF.exit ?_
             refine WK.sr mixed ?_
             refine GX.m rfl ?_
             refine GX.done ?_
             refine WK.ret ?_
             subst hR
             exact RetQ.fr [] (.inr rfl) rfl rfl rfl rfl
            ·rw [hb19]; try simp only [hb19, bb] at hR
             refine WK.condT rfl ?_
             refine WK.sr mixed ?_
             refine GX.m rfl ?_
             refine GX.done ?_
             refine WK.ret ?_
             iterate 2 refine QF.ret ?_
             subst hR
             exact RetQ.fr [] (.inr rfl) rfl rfl rfl rfl
           ·rw [hb18]; try simp only [hb18, bb] at hR
            refine WK.condT rfl ?_
            refine WK.sr mixed ?_
            refine GX.m rfl ?_
            refine GX.done ?_
            refine WK.ret ?_
            iterate 2 refine QF.ret ?_
            subst hR
            exact RetQ.fr [] (.inr rfl) rfl rfl rfl rfl
          ·rw [hb16]; try simp only [hb16, bb] at hR
           refine WK.condT rfl ?_
           refine WK.sr mixed ?_
           refine GX.m rfl ?_
           refine GX.done ?_
           refine WK.ret ?_
           iterate 2 refine QF.ret ?_
           subst hR
           exact RetQ.fr [] (.inr rfl) rfl rfl rfl rfl
         ·rw [hb15]; try simp only [hb15, bb] at hR
          refine WK.condT rfl ?_
          refine WK.sr mixed ?_
          refine GX.m rfl ?_
          refine GX.done ?_
          refine WK.ret ?_
          iterate 2 refine QF.ret ?_
          subst hR
          exact RetQ.fr [] (.inr rfl) rfl rfl rfl rfl
        ·rw [hb13]; try simp only [hb13, bb] at hR
         refine WK.condT rfl ?_
         refine WK.sr mixed ?_
         refine GX.m rfl ?_
         refine GX.done ?_
         refine WK.ret ?_
         iterate 2 refine QF.ret ?_
         subst hR
         exact RetQ.fr [] (.inr rfl) rfl rfl rfl rfl
       ·rw [hb12]; try simp only [hb12, bb] at hR
        refine WK.condT rfl ?_
        refine WK.sr mixed ?_
        refine GX.m rfl ?_
        refine GX.done ?_
        refine WK.ret ?_
        iterate 2 refine QF.ret ?_
        subst hR
        exact RetQ.fr [] (.inr rfl) rfl rfl rfl rfl
      ·rw [hb10]; try simp only [hb10, bb] at hR
       refine WK.condT rfl ?_
       refine WK.sr mixed ?_
       refine GX.m rfl ?_
       refine GX.done ?_
       refine WK.ret ?_
       iterate 2 refine QF.ret ?_
       subst hR
       exact RetQ.fr [] (.inr rfl) rfl rfl rfl rfl
     ·rw [hb9]; try simp only [hb9, bb] at hR
      refine WK.condT rfl ?_
      refine WK.sr mixed ?_
      refine GX.m rfl ?_
      refine GX.done ?_
      refine WK.ret ?_
      iterate 2 refine QF.ret ?_
      subst hR
      exact RetQ.fr [] (.inr rfl) rfl rfl rfl rfl
    ·rw [hb7]; try simp only [hb7, bb] at hR
     refine WK.condT rfl ?_
     refine WK.sr mixed ?_
     refine GX.m rfl ?_
     refine GX.done ?_
     refine WK.ret ?_
     iterate 2 refine QF.ret ?_
     subst hR
     exact RetQ.fr [] (.inr rfl) rfl rfl rfl rfl
   ·rw [hb6]; try simp only [hb6, bb] at hR
    refine WK.condT rfl ?_
    refine WK.sr mixed ?_
    refine GX.m rfl ?_
    refine GX.done ?_
    refine WK.ret ?_
    iterate 2 refine QF.ret ?_
    subst hR
    exact RetQ.fr [] (.inr rfl) rfl rfl rfl rfl
  ·rw [hb4]; try simp only [hb4, bb] at hR
   refine WK.condT rfl ?_
   refine WK.sr mixed ?_
   refine GX.m rfl ?_
   refine GX.done ?_
   refine WK.ret ?_
   iterate 2 refine QF.ret ?_
   subst hR
   exact RetQ.fr [] (.inr rfl) rfl rfl rfl rfl
 ·rw [hb3]; try simp only [hb3, bb] at hR
  refine WK.condT rfl ?_
  refine WK.sr mixed ?_
  refine GX.m rfl ?_
  refine GX.done ?_
  refine WK.ret ?_
  iterate 2 refine QF.ret ?_
  subst hR
  exact RetQ.fr [] (.inr rfl) rfl rfl rfl rfl

theorem f52_ok (is0 : Bool) (R : Int) (hR : F52_crossroadsref25_num is0 = R) : FnOk Try.prog 52 [.bool is0] [] 0 (.int .i64 R) [] 0 := by
 refine FnOk.wk i52 rfl rfl ?_
 unfold F52_crossroadsref25_num at hR
 change WK _ _ _ [ac52] _ ⟨[(0, .bool is0)], [], 0⟩
 unfold ac52
 refine WK.sr mixed ?_
 refine GX.m rfl ?_
 refine GX.done ?_
 refine WK.seq ?_
 refine WK.sr mixed ?_
 refine GX.m rfl ?_
 refine GX.done ?_
 rcases bool_two (is0) with hb1 | hb1
 ·rw [hb1]; try simp only [hb1, bb] at hR
  refine WK.condF rfl ?_
  refine WK.skip ?_
  refine WK.sr mixed ?_
  refine GX.m rfl ?_
  refine GX.done ?_
  refine WK.ret ?_
  subst hR
  exact RetQ.fr [] (.inr rfl) rfl rfl rfl rfl
 ·rw [hb1]; try simp only [hb1, bb] at hR
  refine WK.condT rfl ?_
  refine WK.sr mixed ?_
  refine GX.m rfl ?_
  refine GX.done ?_
  refine WK.ret ?_
  subst hR
  exact RetQ.fr [] (.inr rfl) rfl rfl rfl rfl

theorem f33_ok (c0 : TCand) (R : TS) (hR : F33_crossroadsref25_key c0 = R) : FnOk Try.prog 33 [.agg (TCand.c c0)] [] 0 (.agg (TS.c R)) [] 0 := by
 refine FnOk.wk i33 rfl rfl ?_
 unfold F33_crossroadsref25_key at hR
 change WK _ _ _ [ac33] _ ⟨[(0, .agg (TCand.c c0))], [], 0⟩
 unfold ac33
 refine WK.sr mixed ?_
 refine GX.step (v' := .ptr 0 0) (heap' := [(0, .box (TCand.c c0))]) (next' := 1) rfl rfl rfl rfl rfl rfl rfl ?_
 refine GX.step (v' := .ptr 1 0) (heap' := [(0, .box (TCand.c c0)), (1, .box [.int .i64 0, .int .i64 0, .int .i64 0, .int .i64 0, .int .i64 0, .int .i64 0])]) (next' := 2) rfl rfl rfl rfl rfl rfl rfl ?_
 refine GX.done ?_
 refine WK.seq ?_
 refine WK.drawn mixed ?_
 iterate 2 refine RD.q (.ptr 0 0) ?_
 refine RD.q (.int .u32 c0.P.A) ?_
 refine RD.q (.int .i64 (IntKind.i64.wrap c0.P.A)) ?_
 refine RD.q (.ptr 0 0) ?_
 refine RD.q (.ptr 0 1) ?_
 refine RD.q (.int .i64 c0.P.N) ?_
 refine RD.q (.ptr 0 7) ?_
 refine RD.q (.bool c0.Leaked) ?_
 generalize hc12 : F52_crossroadsref25_num c0.Leaked = c12 at hR
 try dsimp only at hR
 refine RD.callp (r := .int .i64 c12) rfl rfl rfl (f52_ok c0.Leaked _ hc12) rfl rfl ?_
 refine RD.q (.ptr 0 8) ?_
 refine RD.q (.int .i64 c0.From) ?_
 refine RD.q (.ptr 0 2) ?_
 refine RD.q (.int .i64 c0.Proto) ?_
 refine RD.q (.ptr 0 3) ?_
 refine RD.q (.int .i64 c0.Inst) ?_
 refine RD.q (.agg [.int .i64 (IntKind.i64.wrap c0.P.A), .int .i64 c0.P.N, .int .i64 c12, .int .i64 c0.From, .int .i64 c0.Proto, .int .i64 c0.Inst]) ?_
 refine RD.step0 (heap' := [(0, .box (TCand.c c0)), (1, .box [.int .i64 (IntKind.i64.wrap c0.P.A), .int .i64 c0.P.N, .int .i64 c12, .int .i64 c0.From, .int .i64 c0.Proto, .int .i64 c0.Inst])]) (next' := 2) rfl rfl rfl rfl rfl ?_
 refine RD.done rfl ?_
 refine WK.ret ?_
 subst hR
 exact RetQ.fr [] (.inr rfl) rfl rfl rfl rfl

theorem f15_ok (a0 : TCand) (b1 : TCand) (R : Bool) (hR : F15_crossroadsref25_Less a0 b1 = R) : FnOk Try.prog 15 [.agg (TCand.c a0), .agg (TCand.c b1)] [] 0 (.bool R) [] 0 := by
 refine FnOk.wk i15 rfl rfl ?_
 unfold F15_crossroadsref25_Less at hR
 change WK _ _ _ [ac15] _ ⟨[(0, .agg (TCand.c a0)), (1, .agg (TCand.c b1))], [], 0⟩
 unfold ac15
 refine WK.sr mixed ?_
 refine GX.step (v' := .ptr 0 0) (heap' := [(0, .box (TCand.c a0))]) (next' := 1) rfl rfl rfl rfl rfl rfl rfl ?_
 refine GX.step (v' := .ptr 1 0) (heap' := [(0, .box (TCand.c a0)), (1, .box (TCand.c b1))]) (next' := 2) rfl rfl rfl rfl rfl rfl rfl ?_
 refine GX.m rfl ?_
 refine GX.done ?_
 refine WK.seq ?_
 refine WK.drawn mixed ?_
 refine RD.q (.agg (TCand.c a0)) ?_
 generalize hc6 : F33_crossroadsref25_key a0 = c6 at hR
 try dsimp only at hR
 refine RD.callp (r := .agg [.int .i64 c6.e0, .int .i64 c6.e1, .int .i64 c6.e2, .int .i64 c6.e3, .int .i64 c6.e4, .int .i64 c6.e5]) rfl rfl rfl (f33_ok a0 _ hc6) rfl rfl ?_
 refine RD.q (.agg (TCand.c b1)) ?_
 generalize hc8 : F33_crossroadsref25_key b1 = c8 at hR
 try dsimp only at hR
 refine RD.callp (r := .agg [.int .i64 c8.e0, .int .i64 c8.e1, .int .i64 c8.e2, .int .i64 c8.e3, .int .i64 c8.e4, .int .i64 c8.e5]) rfl rfl rfl (f33_ok b1 _ hc8) rfl rfl ?_
 generalize hc9 : F32_crossroadsref25_first c6 c8 = c9 at hR
 try dsimp only at hR
 refine RD.callp (r := .int .i64 c9) rfl rfl rfl (f32_ok c6 c8 _ hc9) rfl rfl ?_
 refine RD.q (.bool (decide (c9 < 0))) ?_
 refine RD.m rfl ?_
 refine RD.done rfl ?_
 refine WK.ret ?_
 subst hR
 exact RetQ.fr [] (.inr rfl) rfl rfl rfl rfl

theorem f12_ok (t0 : TTable) (R : Bool) (hR : F12_crossroadsref25_MayAll t0 = R) : FnOk Try.prog 12 [.agg (TTable.c t0)] [] 0 (.bool R) [] 0 := by
 refine FnOk.wk i12 rfl rfl ?_
 unfold F12_crossroadsref25_MayAll at hR
 change WK _ _ _ [ac12] _ ⟨[(0, .agg (TTable.c t0))], [], 0⟩
 unfold ac12
 refine WK.sr mixed ?_
 refine GX.step (v' := .ptr 0 0) (heap' := [(0, .box (TTable.c t0))]) (next' := 1) rfl rfl rfl rfl rfl rfl rfl ?_
 refine GX.m rfl ?_
 refine GX.done ?_
 refine WK.seq ?_
 refine WK.sr mixed ?_
 refine GX.q (.ptr 0 0) ?_
 refine GX.q (.ro 10 (t0.L.map TCand.c)) ?_
 refine GX.pure (v' := .int .i64 (t0.L.length : Int)) rfl rfl rfl rfl (len_map _ _) ?_
 refine GX.q (.bool (decide (500 < (t0.L.length : Int)))) ?_
 refine GX.done ?_
 rcases bool_two (decide (500 < (t0.L.length : Int))) with hb1 | hb1
 ·rw [hb1]; try simp only [hb1, bb] at hR
  refine WK.condF rfl ?_
  refine WK.skip ?_
  refine WK.seq ?_
  refine WK.sr mixed ?_
  refine GX.m rfl ?_
  refine GX.done ?_
  refine WK.len (t := 5) rfl (by simp) (fun hlen_2 => ?_)
  rw [List.length_map] at hlen_2
  generalize hZ_2 : F12_crossroadsref25_MayAll_l1 t0 0 t0.L = Z_2 at hR
  refine WK.forK (fun k s => ∃ (i3 : Nat), i3 ≤ t0.L.length ∧ k = t0.L.length - i3 ∧ F12_crossroadsref25_MayAll_l1 t0 i3 (t0.L.drop i3) = Z_2 ∧ s = ⟨[(1, .ptr 0 0), (3, .int .i64 (i3 : Int))], [(0, .box (TTable.c t0))], 1⟩) t0.L.length ⟨⟨[(1, .ptr 0 0), (3, .int .i64 (0 : Int))], [(0, .box (TTable.c t0))], 1⟩, Conv.keep [0] [] [1, 3] rfl rfl (viewE_cons rfl rfl (viewE_cons rfl rfl viewE_nil)) rfl rfl, 0, (by omega), rfl, hZ_2, rfl⟩ ?_
  rintro _ _ ⟨i3, hi_2, rfl, hL_2, rfl⟩ again_2 out_2 Q_2 hagain_2 hout_2 hQ_2
  refine WK.seq ?_
  refine WK.sr mixed ?_
  refine GX.m rfl ?_
  refine GX.q (.ptr 0 0) ?_
  refine GX.q (.ro 10 (t0.L.map TCand.c)) ?_
  refine GX.pure (v' := .int .i64 (t0.L.length : Int)) rfl rfl rfl rfl (len_map _ _) ?_
  refine GX.q (.bool (decide ((i3 : Int) < (t0.L.length : Int)))) ?_
  refine GX.done ?_
  rcases bool_two (decide ((i3 : Int) < (t0.L.length : Int))) with hb3 | hb3
  ·rw [hb3]
   rw [drop_end hb3, F12_crossroadsref25_MayAll_l1] at hL_2
   refine WK.condF rfl ?_
   refine WK.exit ?_
   refine QF.exit (hout_2 _ ?_)
   subst hL_2
   try dsimp only [cond_true, cond_false] at hR
   refine WK.sr mixed ?_
   refine GX.m rfl ?_
   refine GX.done ?_
   refine WK.ret ?_
   subst hR
   exact RetQ.fr [] (.inr rfl) rfl rfl rfl rfl
  ·rw [hb3]
   obtain ⟨x3, hx2, hd2, hlt2⟩ := drop_more hb3
   rw [hd2, F12_crossroadsref25_MayAll_l1] at hL_2
   refine WK.condT rfl ?_
   refine WK.skip ?_
   refine WK.seq ?_
   refine WK.blockK (fun _ hK4 => ?_)
   refine WK.seq ?_
   refine WK.drawn mixed ?_
   refine RD.q (.ptr 0 0) ?_
   refine RD.q (.ro 10 (t0.L.map TCand.c)) ?_
   refine RD.m rfl ?_
   refine RD.idxT (c := TCand.c) (x := x3) rfl rfl rfl (Int.natCast_nonneg _) hx2 ?_
   refine RD.q (.agg (TCand.c x3)) ?_
   generalize hc20 : F9_crossroadsref25_May x3 = c20 at hL_2
   try dsimp only at hL_2
   refine RD.callp (r := .bool c20) rfl rfl rfl (f9_ok x3 _ hc20) rfl rfl ?_
   refine RD.q (.bool (!c20)) ?_
   refine RD.m rfl ?_
   rcases bool_two (c20) with hb5 | hb5
   ·rw [hb5]; try simp only [hb5, bb] at hL_2
    iterate 17 refine RD.skip rfl rfl ?_
    refine RD.q (.bool true) ?_
    refine RD.doneB [0, 1, 0, 7, 15, 31, 63, 127, 255, 511, 1023, 2047, 4095, 2047, 10239, 32767, 65535, 2047, 133119, 2047, 919551, 1968127, 4194303, 8388607, 16777215, 33554431] (by kernel_rfl) (by kernel_rfl) (by kernel_rfl) ?_
    refine WK.condT rfl ?_
    refine WK.sr mixed ?_
    refine GX.m rfl ?_
    refine GX.done ?_
    refine WK.ret ?_
    refine QF.ret ?_
    refine QF.ret (hQ_2 _ _ ?_)
    subst hL_2
    subst hR
    exact RetQ.fr [] (.inr rfl) rfl rfl rfl rfl
   ·rw [hb5]; try simp only [hb5, bb] at hL_2
    refine RD.m rfl ?_
    refine RD.q (.bool (decide (0 < (i3 : Int)))) ?_
    refine RD.m rfl ?_
    rcases bool_two (decide (0 < (i3 : Int))) with hb6 | hb6
    ·rw [hb6]; try simp only [hb6, bb] at hL_2
     iterate 13 refine RD.skip rfl rfl ?_
     iterate 2 refine RD.q (.bool false) ?_
     refine RD.doneB [0, 1, 0, 7, 15, 31, 63, 127, 255, 511, 1023, 2047, 4095, 2047, 10239, 32767, 65535, 2047, 133119, 2047, 919551, 1968127, 4194303, 8388607, 16777215, 33554431] (by kernel_rfl) (by kernel_rfl) (by kernel_rfl) ?_
     refine WK.condF rfl ?_
     refine WK.skip ?_
     refine WK.nil (QF.normal (hK4 _ ?_))
     refine WK.regx mixed ?_
     refine GX.m rfl ?_
     refine GX.pure (v' := .int .i64 ((i3 + 1 : Nat) : Int)) rfl rfl rfl rfl (congrArg (PVal.int .i64) (wrap_up hlt2 hlen_2)) ?_
     refine GX.m rfl ?_
     refine GX.done ?_
     refine WK.nil (QF.normal ?_)
     exact hagain_2 _ (t0.L.length - (i3 + 1)) ⟨[(1, .ptr 0 0), (3, .int .i64 ((i3 + 1) : Int))], [(0, .box (TTable.c t0))], 1⟩ (by omega) (Conv.keep [0] [] [1, 3] rfl rfl (viewE_cons rfl rfl (viewE_cons rfl rfl viewE_nil)) rfl rfl) ⟨i3 + 1, (by omega), rfl, hL_2, rfl⟩
    ·rw [hb6]; try simp only [hb6, bb] at hL_2
     refine RD.q (.ptr 0 0) ?_
     refine RD.q (.ro 10 (t0.L.map TCand.c)) ?_
     refine RD.m rfl ?_
     refine RD.pure (v' := .int .i64 ((i3 - 1 : Nat) : Int)) rfl rfl rfl rfl (congrArg (PVal.int .i64) (wrap_down hb6 hlt2 hlen_2)) ?_
     refine RD.idxT (c := TCand.c) (x := (t0.L.getD (i3 - 1) default)) rfl rfl rfl (Int.natCast_nonneg _) (getD_at (by omega)) ?_
     refine RD.q (.agg [.int .u32 (((t0.L.getD (i3 - 1) default).P).A), .int .i64 (((t0.L.getD (i3 - 1) default).P).N), .int .i64 ((t0.L.getD (i3 - 1) default).Proto), .int .i64 ((t0.L.getD (i3 - 1) default).Inst), .int .i64 ((t0.L.getD (i3 - 1) default).Dist), .int .i64 ((t0.L.getD (i3 - 1) default).Metric), .int .u32 ((t0.L.getD (i3 - 1) default).Tag), .bool ((t0.L.getD (i3 - 1) default).Leaked), .int .i64 ((t0.L.getD (i3 - 1) default).From), .ro 2 (((t0.L.getD (i3 - 1) default).Hops).map THop.c)]) ?_
     refine RD.q (.ptr 0 0) ?_
     refine RD.q (.ro 10 (t0.L.map TCand.c)) ?_
     refine RD.m rfl ?_
     refine RD.idxT (c := TCand.c) (x := x3) rfl rfl rfl (Int.natCast_nonneg _) hx2 ?_
     refine RD.q (.agg (TCand.c x3)) ?_
     generalize hc37 : F15_crossroadsref25_Less (⟨((t0.L.getD (i3 - 1) default).P), (t0.L.getD (i3 - 1) default).Proto, (t0.L.getD (i3 - 1) default).Inst, (t0.L.getD (i3 - 1) default).Dist, (t0.L.getD (i3 - 1) default).Metric, (t0.L.getD (i3 - 1) default).Tag, (t0.L.getD (i3 - 1) default).Leaked, (t0.L.getD (i3 - 1) default).From, (t0.L.getD (i3 - 1) default).Hops⟩ : TCand) x3 = c37 at hL_2
     try dsimp only at hL_2
     refine RD.callp (r := .bool c37) rfl rfl rfl (f15_ok (⟨((t0.L.getD (i3 - 1) default).P), (t0.L.getD (i3 - 1) default).Proto, (t0.L.getD (i3 - 1) default).Inst, (t0.L.getD (i3 - 1) default).Dist, (t0.L.getD (i3 - 1) default).Metric, (t0.L.getD (i3 - 1) default).Tag, (t0.L.getD (i3 - 1) default).Leaked, (t0.L.getD (i3 - 1) default).From, (t0.L.getD (i3 - 1) default).Hops⟩ : TCand) x3 _ hc37) rfl rfl ?_
     iterate 3 refine RD.q (.bool (!c37)) ?_
     refine RD.doneB [0, 1, 0, 7, 15, 31, 63, 127, 255, 511, 1023, 2047, 4095, 2047, 10239, 32767, 65535, 2047, 133119, 2047, 919551, 1968127, 4194303, 8388607, 16777215, 33554431] (by kernel_rfl) (by kernel_rfl) (by kernel_rfl) ?_
     rcases bool_two (c37) with hb7 | hb7
     ·rw [hb7]; try simp only [hb7, bb] at hL_2
      refine WK.condT rfl ?_
      refine WK.sr mixed ?_
      refine GX.m rfl ?_
      refine GX.done ?_
      refine WK.ret ?_
      refine QF.ret ?_
      refine QF.ret (hQ_2 _ _ ?_)
      subst hL_2
      subst hR
      exact RetQ.fr [] (.inr rfl) rfl rfl rfl rfl
     ·rw [hb7]; try simp only [hb7, bb] at hL_2
      refine WK.condF rfl ?_
      refine WK.skip ?_
      refine WK.nil (QF.normal (hK4 _ ?_))
      refine WK.regx mixed ?_
      refine GX.m rfl ?_
      refine GX.pure (v' := .int .i64 ((i3 + 1 : Nat) : Int)) rfl rfl rfl rfl (congrArg (PVal.int .i64) (wrap_up hlt2 hlen_2)) ?_
      refine GX.m rfl ?_
      refine GX.done ?_
      refine WK.nil (QF.normal ?_)
      exact hagain_2 _ (t0.L.length - (i3 + 1)) ⟨[(1, .ptr 0 0), (3, .int .i64 ((i3 + 1) : Int))], [(0, .box (TTable.c t0))], 1⟩ (by omega) (Conv.keep [0] [] [1, 3] rfl rfl (viewE_cons rfl rfl (viewE_cons rfl rfl viewE_nil)) rfl rfl) ⟨i3 + 1, (by omega), rfl, hL_2, rfl⟩
 ·rw [hb1]; try simp only [hb1, bb] at hR
  refine WK.condT rfl ?_
  refine WK.sr mixed ?_
  refine GX.m rfl ?_
  refine GX.done ?_
  refine WK.ret ?_
  subst hR
  exact RetQ.fr [] (.inr rfl) rfl rfl rfl rfl

theorem f25_ok (l0 : List TCand) (R : (List TCand)) (hR : F25_crossroadslaw25_rows l0 = some R) : FnOk Try.prog 25 [.ro 10 (l0.map TCand.c)] [] 0 (.ro 10 (R.map TCand.c)) [] 0 := by
 refine FnOk.wk i25 rfl rfl ?_
 unfold F25_crossroadslaw25_rows at hR
 try dsimp only at hR
 change WK _ _ _ [ac25] _ ⟨[(0, .ro 10 (l0.map TCand.c))], [], 0⟩
 unfold ac25
 refine WK.sr mixed ?_
 refine GX.m rfl ?_
 refine GX.done ?_
 refine WK.sr mixed ?_
 refine GX.step (v' := .own 0 10 0 (([] : List TCand)).length) (heap' := [(0, .row 10 37 (([] : List TCand).map TCand.c))]) (next' := 1) rfl rfl rfl rfl rfl rfl rfl ?_
 refine GX.m rfl ?_
 refine GX.done ?_
 refine WK.seq ?_
 refine WK.sr mixed ?_
 refine GX.m rfl ?_
 refine GX.done ?_
 refine WK.len (t := 0) rfl (by simp) (fun hlen_4 => ?_)
 rw [List.length_map] at hlen_4
 generalize hZ_4 : F25_crossroadslaw25_rows_l1 ([] : List TCand) l0 = Z_4 at hR
 refine WK.forK (fun k s => ∃ (i4 : Nat) (out3 : List TCand), i4 ≤ l0.length ∧ k = l0.length - i4 ∧ F25_crossroadslaw25_rows_l1 out3 (l0.drop i4) = Z_4 ∧ s = ⟨[(0, .ro 10 (l0.map TCand.c)), (3, .own 0 10 0 out3.length), (4, .int .i64 (i4 : Int))], [(0, .row 10 37 (out3.map TCand.c))], 1⟩) l0.length ⟨⟨[(0, .ro 10 (l0.map TCand.c)), (3, .own 0 10 0 ([] : List TCand).length), (4, .int .i64 (0 : Int))], [(0, .row 10 37 (([] : List TCand).map TCand.c))], 1⟩, Conv.keep [0] [] [0, 3, 4] rfl rfl (viewE_cons rfl rfl (viewE_cons rfl rfl (viewE_cons rfl rfl viewE_nil))) rfl rfl, 0, ([] : List TCand), (by omega), rfl, hZ_4, rfl⟩ ?_
 rintro _ _ ⟨i4, out3, hi_4, rfl, hL_4, rfl⟩ again_4 out_4 Q_4 hagain_4 hout_4 hQ_4
 refine WK.seq ?_
 refine WK.sr mixed ?_
 iterate 2 refine GX.m rfl ?_
 refine GX.pure (v' := .int .i64 (l0.length : Int)) rfl rfl rfl rfl (len_map _ _) ?_
 refine GX.q (.bool (decide ((i4 : Int) < (l0.length : Int)))) ?_
 refine GX.done ?_
 rcases bool_two (decide ((i4 : Int) < (l0.length : Int))) with hb5 | hb5
 ·rw [hb5]
  rw [drop_end hb5, F25_crossroadslaw25_rows_l1] at hL_4
  refine WK.condF rfl ?_
  refine WK.exit ?_
  refine QF.exit (hout_4 _ ?_)
  subst hL_4
  try dsimp only [cond_true, cond_false] at hR
  refine WK.sr mixed ?_
  iterate 2 refine GX.m rfl ?_
  refine GX.done ?_
  refine WK.ret ?_
  obtain rfl := Option.some.inj hR
  exact RetQ.fr [0] (.inr rfl) rfl rfl (viewGo_cons (view_rowT rfl rfl) viewGo_nil) rfl
 ·rw [hb5]
  obtain ⟨x4, hx4, hd4, hlt4⟩ := drop_more hb5
  rw [hd4, F25_crossroadslaw25_rows_l1] at hL_4
  refine WK.condT rfl ?_
  refine WK.skip ?_
  refine WK.seq ?_
  refine WK.blockK (fun _ hK6 => ?_)
  refine WK.regx mixed ?_
  iterate 3 refine GX.m rfl ?_
  refine GX.idxT (c := TCand.c) (x := x4) rfl rfl rfl (Int.natCast_nonneg _) hx4 ?_
  refine GX.q (.agg (TCand.c x4)) ?_
  generalize hc17 : F10_crossroadslaw25_plain x4 = c17 at hL_4
  rcases c17 with _ | c17
  ·try dsimp only at hL_4
   subst hL_4
   try dsimp only at hR
   cases hR
  try dsimp only at hL_4
  try dsimp only at hL_4
  refine GX.callp (r := .agg [.int .u32 c17.P.A, .int .i64 c17.P.N, .int .i64 c17.Proto, .int .i64 c17.Inst, .int .i64 c17.Dist, .int .i64 c17.Metric, .int .u32 c17.Tag, .bool c17.Leaked, .int .i64 c17.From, .ro 2 (c17.Hops.map THop.c)]) rfl rfl rfl (f10_ok x4 _ hc17) rfl rfl ?_
  refine GX.step (v' := .own 1 10 0 (([c17] : List TCand)).length) (heap' := [(0, .row 10 37 (out3.map TCand.c)), (1, .row 10 37 (([c17] : List TCand).map TCand.c))]) (next' := 2) rfl rfl rfl rfl rfl rfl rfl ?_
  rcases bool_two (decide (out3.length < 1099511627776)) with hg7 | hg7
  ·simp only [hg7, bb] at hL_4
   try dsimp only at hL_4
   subst hL_4
   try dsimp only at hR
   cases hR
  simp only [hg7, bb] at hL_4
  have hg7_ := of_decide_eq_true hg7
  refine GX.appT (c := TCand.c) (L := out3) (X := ([c17] : List TCand)) (heap' := [(1, .row 10 37 (([c17] : List TCand).map TCand.c)), (2, .row 10 37 ((out3 ++ ([c17] : List TCand)).map TCand.c))]) (next' := 3) rfl rfl rfl rfl (elems_own rfl) (by ((try simp only [List.length_append, List.length_cons, List.length_nil, List.length_map, decide_eq_true_eq, decide_eq_false_iff_not] at *) <;> omega)) (by ((try simp only [List.length_append, List.length_cons, List.length_nil, List.length_map, decide_eq_true_eq, decide_eq_false_iff_not] at *) <;> omega)) rfl rfl rfl rfl ?_
  refine GX.m rfl ?_
  refine GX.done ?_
  refine WK.nil (QF.normal (hK6 _ ?_))
  refine WK.regx mixed ?_
  refine GX.m rfl ?_
  refine GX.pure (v' := .int .i64 ((i4 + 1 : Nat) : Int)) rfl rfl rfl rfl (congrArg (PVal.int .i64) (wrap_up hlt4 hlen_4)) ?_
  refine GX.m rfl ?_
  refine GX.done ?_
  refine WK.nil (QF.normal ?_)
  exact hagain_4 _ (l0.length - (i4 + 1)) ⟨[(0, .ro 10 (l0.map TCand.c)), (3, .own 0 10 0 (out3 ++ ([c17] : List TCand)).length), (4, .int .i64 ((i4 + 1) : Int))], [(0, .row 10 37 ((out3 ++ ([c17] : List TCand)).map TCand.c))], 1⟩ (by omega) (Conv.keep [2] [] [0, 3, 4] rfl rfl (viewE_cons rfl rfl (viewE_cons rfl rfl (viewE_cons rfl rfl viewE_nil))) rfl rfl) ⟨i4 + 1, (out3 ++ ([c17] : List TCand)), (by omega), rfl, hL_4, rfl⟩

theorem f13_ok (t0 : TTable) (R : TTable) (hR : F13_crossroadslaw25_table t0 = some R) : FnOk Try.prog 13 [.agg (TTable.c t0)] [] 0 (.agg (TTable.c R)) [] 0 := by
 refine FnOk.wk i13 rfl rfl ?_
 unfold F13_crossroadslaw25_table at hR
 try dsimp only at hR
 change WK _ _ _ [ac13] _ ⟨[(0, .agg (TTable.c t0))], [], 0⟩
 unfold ac13
 refine WK.sr mixed ?_
 refine GX.step (v' := .ptr 0 0) (heap' := [(0, .box (TTable.c t0))]) (next' := 1) rfl rfl rfl rfl rfl rfl rfl ?_
 refine GX.step (v' := .ptr 1 0) (heap' := [(0, .box (TTable.c t0)), (1, .box [.nils])]) (next' := 2) rfl rfl rfl rfl rfl rfl rfl ?_
 refine GX.done ?_
 refine WK.sr mixed ?_
 refine GX.q (.ptr 0 0) ?_
 refine GX.q (.ro 10 (t0.L.map TCand.c)) ?_
 generalize hc5 : F25_crossroadslaw25_rows t0.L = c5 at hR
 rcases c5 with _ | c5
 ·try dsimp only at hR
  cases hR
 try dsimp only at hR
 try dsimp only at hR
 refine GX.callp (r := .ro 10 (c5.map TCand.c)) rfl rfl rfl (f25_ok t0.L _ hc5) rfl rfl ?_
 refine GX.q (.agg [.ro 10 (c5.map TCand.c)]) ?_
 refine GX.step0 (heap' := [(0, .box (TTable.c t0)), (1, .box [.ro 10 (c5.map TCand.c)])]) (next' := 2) rfl rfl rfl rfl rfl ?_
 refine GX.done ?_
 refine WK.ret ?_
 obtain rfl := Option.some.inj hR
 exact RetQ.fr [] (.inr rfl) rfl rfl rfl rfl

theorem f35_ok (c0 : TCand) (R : TS) (hR : F35_crossroadsref25_rank c0 = R) : FnOk Try.prog 35 [.agg (TCand.c c0)] [] 0 (.agg (TS.c R)) [] 0 := by
 refine FnOk.wk i35 rfl rfl ?_
 unfold F35_crossroadsref25_rank at hR
 change WK _ _ _ [ac35] _ ⟨[(0, .agg (TCand.c c0))], [], 0⟩
 unfold ac35
 refine WK.sr mixed ?_
 refine GX.step (v' := .ptr 0 0) (heap' := [(0, .box (TCand.c c0))]) (next' := 1) rfl rfl rfl rfl rfl rfl rfl ?_
 refine GX.step (v' := .ptr 1 0) (heap' := [(0, .box (TCand.c c0)), (1, .box [.int .i64 0, .int .i64 0, .int .i64 0, .int .i64 0, .int .i64 0, .int .i64 0])]) (next' := 2) rfl rfl rfl rfl rfl rfl rfl ?_
 refine GX.done ?_
 refine WK.seq ?_
 refine WK.drawn mixed ?_
 refine RD.q (.ptr 0 4) ?_
 refine RD.q (.int .i64 c0.Dist) ?_
 refine RD.q (.ptr 0 7) ?_
 refine RD.q (.bool c0.Leaked) ?_
 generalize hc7 : F52_crossroadsref25_num c0.Leaked = c7 at hR
 try dsimp only at hR
 refine RD.callp (r := .int .i64 c7) rfl rfl rfl (f52_ok c0.Leaked _ hc7) rfl rfl ?_
 refine RD.q (.ptr 0 2) ?_
 refine RD.q (.int .i64 c0.Proto) ?_
 refine RD.q (.ptr 0 5) ?_
 refine RD.q (.int .i64 c0.Metric) ?_
 refine RD.q (.ptr 0 3) ?_
 refine RD.q (.int .i64 c0.Inst) ?_
 refine RD.q (.ptr 0 8) ?_
 refine RD.q (.int .i64 c0.From) ?_
 refine RD.q (.agg [.int .i64 c0.Dist, .int .i64 c7, .int .i64 c0.Proto, .int .i64 c0.Metric, .int .i64 c0.Inst, .int .i64 c0.From]) ?_
 refine RD.step0 (heap' := [(0, .box (TCand.c c0)), (1, .box [.int .i64 c0.Dist, .int .i64 c7, .int .i64 c0.Proto, .int .i64 c0.Metric, .int .i64 c0.Inst, .int .i64 c0.From])]) (next' := 2) rfl rfl rfl rfl rfl ?_
 refine RD.done rfl ?_
 refine WK.ret ?_
 subst hR
 exact RetQ.fr [] (.inr rfl) rfl rfl rfl rfl

theorem f17_ok (a0 : TCand) (b1 : TCand) (R : Bool) (hR : F17_crossroadsref25_Better a0 b1 = R) : FnOk Try.prog 17 [.agg (TCand.c a0), .agg (TCand.c b1)] [] 0 (.bool R) [] 0 := by
 refine FnOk.wk i17 rfl rfl ?_
 unfold F17_crossroadsref25_Better at hR
 change WK _ _ _ [ac17] _ ⟨[(0, .agg (TCand.c a0)), (1, .agg (TCand.c b1))], [], 0⟩
 unfold ac17
 refine WK.sr mixed ?_
 refine GX.step (v' := .ptr 0 0) (heap' := [(0, .box (TCand.c a0))]) (next' := 1) rfl rfl rfl rfl rfl rfl rfl ?_
 refine GX.step (v' := .ptr 1 0) (heap' := [(0, .box (TCand.c a0)), (1, .box (TCand.c b1))]) (next' := 2) rfl rfl rfl rfl rfl rfl rfl ?_
 refine GX.m rfl ?_
 refine GX.done ?_
 refine WK.seq ?_
 refine WK.drawn mixed ?_
 refine RD.q (.agg (TCand.c a0)) ?_
 generalize hc6 : F35_crossroadsref25_rank a0 = c6 at hR
 try dsimp only at hR
 refine RD.callp (r := .agg [.int .i64 c6.e0, .int .i64 c6.e1, .int .i64 c6.e2, .int .i64 c6.e3, .int .i64 c6.e4, .int .i64 c6.e5]) rfl rfl rfl (f35_ok a0 _ hc6) rfl rfl ?_
 refine RD.q (.agg (TCand.c b1)) ?_
 generalize hc8 : F35_crossroadsref25_rank b1 = c8 at hR
 try dsimp only at hR
 refine RD.callp (r := .agg [.int .i64 c8.e0, .int .i64 c8.e1, .int .i64 c8.e2, .int .i64 c8.e3, .int .i64 c8.e4, .int .i64 c8.e5]) rfl rfl rfl (f35_ok b1 _ hc8) rfl rfl ?_
 generalize hc9 : F32_crossroadsref25_first c6 c8 = c9 at hR
 try dsimp only at hR
 refine RD.callp (r := .int .i64 c9) rfl rfl rfl (f32_ok c6 c8 _ hc9) rfl rfl ?_
 refine RD.q (.bool (decide (c9 < 0))) ?_
 refine RD.m rfl ?_
 refine RD.done rfl ?_
 refine WK.ret ?_
 subst hR
 exact RetQ.fr [] (.inr rfl) rfl rfl rfl rfl

end Go.Proofs.Ytmfggjebbhdejaa.Abs
