/- The functions walked: each computes its Lean function (printed by this work's own program gen.py). -/
import Derived.Test.YtlemcljcmfphcaaSz
set_option linter.unusedVariables false
set_option linter.unusedSimpArgs false
set_option maxRecDepth 10000
set_option maxHeartbeats 4000000
namespace Go.Proofs.Ytlemcljcmfphcaa.Abs
open Go

theorem f10_ok (tags0 : List Int) (hp0 : tags0.length ≤ 20) (R : TWorld × Int) (hR : F10_redist_New tags0 = R) : FnOk Try.prog 10 [.ro 1 (tags0.map c_u32)] [] 0 (.tup [.agg (TWorld.c R.1), .int .i64 R.2]) [] 0 := by
 refine FnOk.wk i10 rfl rfl ?_
 unfold F10_redist_New at hR
 change WK _ _ _ [ac10] _ ⟨[(0, .ro 1 (tags0.map c_u32))], [], 0⟩
 unfold ac10
 refine WK.sr mixed ?_
 refine GX.step (v' := .ptr 0 0) (heap' := [(0, .box [.nils])]) (next' := 1) rfl rfl rfl rfl rfl rfl rfl ?_
 refine GX.m rfl ?_
 refine GX.done ?_
 refine WK.sr mixed ?_
 refine GX.step (v' := .mapr 1) (heap' := [(0, .box [.nils]), (1, .mp (([] : List (Int × Bool)).map (encM .u32 (fun y => .bool y))))]) (next' := 2) rfl rfl rfl rfl rfl rfl rfl ?_
 refine GX.step0 (heap' := [(0, .box [.nils]), (1, .mp ((setM ([] : List (Int × Bool)) 0 true).map (encM .u32 (fun y => .bool y))))]) (next' := 2) rfl rfl (core_msetM (e := (fun y => .bool y)) (y0 := true) rfl rfl rfl) rfl rfl ?_
 refine GX.m rfl ?_
 refine GX.m rfl ?_
 refine GX.done ?_
 refine WK.sr mixed ?_
 refine GX.step (v' := .ptr 2 0) (heap' := [(0, .box [.nils]), (1, .mp ((setM ([] : List (Int × Bool)) 0 true).map (encM .u32 (fun y => .bool y)))), (2, .box [.nils])]) (next' := 3) rfl rfl rfl rfl rfl rfl rfl ?_
 refine GX.done ?_
 refine WK.seq ?_
 refine WK.sr mixed ?_
 refine GX.m rfl ?_
 refine GX.pure (v' := .int .i64 (tags0.length : Int)) rfl rfl rfl rfl (len_map _ _) ?_
 refine GX.m rfl ?_
 refine GX.done ?_
 refine WK.adoptB (id := 2) (j := 0) (sz := 3) (ty := 40) (heap' := [(0, .box [.nils]), (1, .mp ((setM ([] : List (Int × Bool)) 0 true).map (encM .u32 (fun y => .bool y)))), (2, .box [.own 3 3 0 (([] : List TDomain)).length]), (3, .row 3 40 (([] : List TDomain).map TDomain.c))]) rfl rfl (by decide) (by simp) rfl ?_
 refine WK.len (t := 0) rfl (by simp) (fun hlen_13 => ?_)
 rw [List.length_map] at hlen_13
 generalize hZ_13 : F10_redist_New_l1 (setM ([] : List (Int × Bool)) 0 true) ([] : List TDomain) tags0 = Z_13 at hR
 refine WK.forK (fun k s => ∃ (i12 : Nat) (seen4 : List (Int × Bool)) (row3 : List TDomain), i12 ≤ tags0.length ∧ k = tags0.length - i12 ∧ row3.length ≤ i12 + 0 ∧ F10_redist_New_l1 seen4 row3 (tags0.drop i12) = Z_13 ∧ s = ⟨[(0, .ro 1 (tags0.map c_u32)), (2, .ptr 0 0), (4, .mapr 1), (5, .ptr 2 0), (10, .ro 1 (tags0.map c_u32)), (11, .int .i64 (tags0.length : Int)), (12, .int .i64 (i12 : Int))], [(0, .box [.nils]), (1, .mp (seen4.map (encM .u32 (fun y => .bool y)))), (2, .box [.own 3 3 0 row3.length]), (3, .row 3 40 (row3.map TDomain.c))], 4⟩) tags0.length ⟨⟨[(0, .ro 1 (tags0.map c_u32)), (2, .ptr 0 0), (4, .mapr 1), (5, .ptr 2 0), (10, .ro 1 (tags0.map c_u32)), (11, .int .i64 (tags0.length : Int)), (12, .int .i64 (0 : Int))], [(0, .box [.nils]), (1, .mp ((setM ([] : List (Int × Bool)) 0 true).map (encM .u32 (fun y => .bool y)))), (2, .box [.own 3 3 0 ([] : List TDomain).length]), (3, .row 3 40 (([] : List TDomain).map TDomain.c))], 4⟩, Conv.keep [0, 1, 2, 3] [] [0, 2, 4, 5, 10, 11, 12] rfl rfl (viewE_cons rfl rfl (viewE_cons rfl rfl (viewE_cons rfl rfl (viewE_cons rfl rfl (viewE_cons rfl rfl (viewE_cons rfl rfl (viewE_cons rfl rfl viewE_nil))))))) rfl rfl, 0, (setM ([] : List (Int × Bool)) 0 true), ([] : List TDomain), (by omega), rfl, (by ((try simp only [List.length_append, List.length_cons, List.length_nil, decide_eq_true_eq] at *) <;> first | omega | (rw [wrap64_of (by omega) (by omega)]; omega))), hZ_13, rfl⟩ ?_
 rintro _ _ ⟨i12, seen4, row3, hi_13, rfl, hinv13_row3, hL_13, rfl⟩ again_13 out_13 Q_13 hagain_13 hout_13 hQ_13
 refine WK.sr mixed ?_
 refine GX.q (.bool (decide ((i12 : Int) < (tags0.length : Int)))) ?_
 refine GX.done ?_
 refine WK.seq ?_
 rcases bool_two (decide ((i12 : Int) < (tags0.length : Int))) with hb14 | hb14
 ·rw [hb14]
  rw [drop_end hb14, F10_redist_New_l1] at hL_13
  refine WK.condF rfl ?_
  refine WK.exit ?_
  refine QF.exit (hout_13 _ ?_)
  subst hL_13
  try dsimp only [cond_true, cond_false] at hR
  refine WK.seq ?_
  refine WK.sr mixed ?_
  refine GX.m rfl ?_
  refine GX.pure (v' := .int .i64 (tags0.length : Int)) rfl rfl rfl rfl (len_map _ _) ?_
  refine GX.q (.bool (decide ((tags0.length : Int) = 0))) ?_
  refine GX.m rfl ?_
  rcases bool_two (decide ((tags0.length : Int) = 0)) with hb15 | hb15
  ·rw [hb15]; try simp only [hb15, cond_true, cond_false, Bool.true_and, Bool.false_and, Bool.true_or, Bool.false_or, Bool.not_true, Bool.not_false] at hR
   refine GX.m rfl ?_
   refine GX.pure (v' := .int .i64 (tags0.length : Int)) rfl rfl rfl rfl (len_map _ _) ?_
   refine GX.q (.bool (decide (8 < (tags0.length : Int)))) ?_
   refine GX.q (.bool (decide (8 < (tags0.length : Int)))) ?_
   refine GX.done ?_
   rcases bool_two (decide (8 < (tags0.length : Int))) with hb16 | hb16
   ·rw [hb16]; try simp only [hb16, cond_true, cond_false, Bool.true_and, Bool.false_and, Bool.true_or, Bool.false_or, Bool.not_true, Bool.not_false] at hR
    refine WK.condF rfl ?_
    refine WK.skip ?_
    refine WK.sr mixed ?_
    refine GX.q (.agg [.own 3 3 0 row3.length]) ?_
    refine GX.step0 (heap' := [(0, .box [.own 3 3 0 row3.length]), (1, .mp (seen4.map (encM .u32 (fun y => .bool y)))), (2, .box [.own 3 3 0 row3.length]), (3, .row 3 40 (row3.map TDomain.c))]) (next' := 4) rfl rfl rfl rfl rfl ?_
    refine GX.m rfl ?_
    refine GX.done ?_
    refine WK.ret ?_
    subst hR
    exact RetQ.fr [3] (.inr rfl) rfl rfl (viewGo_cons (viewP_agg (viewGo_cons (view_rowT rfl rfl) viewGo_nil)) (viewGo_cons rfl viewGo_nil)) rfl
   ·rw [hb16]; try simp only [hb16, cond_true, cond_false, Bool.true_and, Bool.false_and, Bool.true_or, Bool.false_or, Bool.not_true, Bool.not_false] at hR
    refine WK.condT rfl ?_
    refine WK.sr mixed ?_
    refine GX.q (.agg [.nils]) ?_
    refine GX.step0 (heap' := [(0, .box [.nils]), (1, .mp (seen4.map (encM .u32 (fun y => .bool y)))), (2, .box [.own 3 3 0 row3.length]), (3, .row 3 40 (row3.map TDomain.c))]) (next' := 4) rfl rfl rfl rfl rfl ?_
    refine GX.m rfl ?_
    refine GX.done ?_
    refine WK.ret ?_
    subst hR
    exact RetQ.frw [] (.inr rfl) rfl rfl rfl (.tup (.cons (.agg (.cons .nil .refl)) .refl))
  ·rw [hb15]; try simp only [hb15, cond_true, cond_false, Bool.true_and, Bool.false_and, Bool.true_or, Bool.false_or, Bool.not_true, Bool.not_false] at hR
   refine GX.skip rfl rfl ?_
   refine GX.skip rfl rfl ?_
   refine GX.skip rfl rfl ?_
   refine GX.q (.bool true) ?_
   refine GX.done ?_
   refine WK.condT rfl ?_
   refine WK.sr mixed ?_
   refine GX.q (.agg [.nils]) ?_
   refine GX.step0 (heap' := [(0, .box [.nils]), (1, .mp (seen4.map (encM .u32 (fun y => .bool y)))), (2, .box [.own 3 3 0 row3.length]), (3, .row 3 40 (row3.map TDomain.c))]) (next' := 4) rfl rfl rfl rfl rfl ?_
   refine GX.m rfl ?_
   refine GX.done ?_
   refine WK.ret ?_
   subst hR
   exact RetQ.frw [] (.inr rfl) rfl rfl rfl (.tup (.cons (.agg (.cons .nil .refl)) .refl))
 ·rw [hb14]
  obtain ⟨x12, hx13, hd13, hlt13⟩ := drop_more hb14
  rw [hd13, F10_redist_New_l1] at hL_13
  refine WK.condT rfl ?_
  refine WK.skip ?_
  refine WK.seq ?_
  refine WK.blockK (fun _ hK17 => ?_)
  refine WK.sr mixed ?_
  refine GX.idxT (c := c_u32) (x := x12) rfl rfl rfl (Int.natCast_nonneg _) hx13 ?_
  refine GX.q (.int .u32 x12) ?_
  refine GX.m rfl ?_
  refine GX.done ?_
  refine WK.seq ?_
  refine WK.sr mixed ?_
  refine GX.m rfl ?_
  refine GX.m rfl ?_
  refine GX.pure (v' := .bool ((findM seen4 x12).getD false)) rfl rfl rfl (core_lookM (e := (fun y => .bool y)) (z0 := false) rfl rfl) rfl ?_
  refine GX.done ?_
  rcases bool_two (((findM seen4 x12).getD false)) with hb18 | hb18
  ·rw [hb18]; try simp only [hb18, cond_true, cond_false, Bool.true_and, Bool.false_and, Bool.true_or, Bool.false_or, Bool.not_true, Bool.not_false] at hL_13
   refine WK.condF rfl ?_
   refine WK.skip ?_
   refine WK.sr mixed ?_
   refine GX.m rfl ?_
   refine GX.m rfl ?_
   refine GX.step0 (heap' := [(0, .box [.nils]), (1, .mp ((setM seen4 x12 true).map (encM .u32 (fun y => .bool y)))), (2, .box [.own 3 3 0 row3.length]), (3, .row 3 40 (row3.map TDomain.c))]) (next' := 4) rfl rfl (core_msetM (e := (fun y => .bool y)) (y0 := true) rfl rfl rfl) rfl rfl ?_
   refine GX.done ?_
   refine WK.drawn mixed ?_
   refine RD.pure (v' := .ptr 2 0) rfl rfl rfl rfl rfl ?_
   refine RD.pure (v' := .own 3 3 0 row3.length) rfl rfl rfl rfl rfl ?_
   refine RD.pure (v' := .int .u32 x12) rfl rfl rfl rfl rfl ?_
   refine RD.pureW (v' := .agg [.int .u32 x12, .ro 2 (([] : List TPrefix).map TPrefix.c), .ro 4 (([] : List TExt).map TExt.c)]) rfl rfl rfl rfl (.agg (.cons .refl (.cons .nil (.cons .nil .refl)))) ?_
   refine RD.step (v' := .own 4 3 0 (([(⟨x12, ([] : List TPrefix), ([] : List TExt)⟩ : TDomain)] : List TDomain)).length) (heap' := [(0, .box [.nils]), (1, .mp ((setM seen4 x12 true).map (encM .u32 (fun y => .bool y)))), (2, .box [.own 3 3 0 row3.length]), (3, .row 3 40 (row3.map TDomain.c)), (4, .row 3 40 (([(⟨x12, ([] : List TPrefix), ([] : List TExt)⟩ : TDomain)] : List TDomain).map TDomain.c))]) (next' := 5) rfl rfl rfl rfl rfl rfl rfl ?_
   refine RD.appT (c := TDomain.c) (L := row3) (X := ([(⟨x12, ([] : List TPrefix), ([] : List TExt)⟩ : TDomain)] : List TDomain)) (heap' := [(0, .box [.nils]), (1, .mp ((setM seen4 x12 true).map (encM .u32 (fun y => .bool y)))), (2, .box [.own 3 3 0 row3.length]), (4, .row 3 40 (([(⟨x12, ([] : List TPrefix), ([] : List TExt)⟩ : TDomain)] : List TDomain).map TDomain.c)), (5, .row 3 40 ((row3 ++ ([(⟨x12, ([] : List TPrefix), ([] : List TExt)⟩ : TDomain)] : List TDomain)).map TDomain.c))]) (next' := 6) rfl rfl rfl rfl (elems_own rfl) (by ((try simp only [List.length_append, List.length_cons, List.length_nil, List.length_map, decide_eq_true_eq, decide_eq_false_iff_not] at *) <;> omega)) (by ((try simp only [List.length_append, List.length_cons, List.length_nil, List.length_map, decide_eq_true_eq, decide_eq_false_iff_not] at *) <;> omega)) rfl rfl rfl rfl ?_
   refine RD.pure (v' := .ptr 2 0) rfl rfl rfl rfl rfl ?_
   refine RD.step0 (heap' := [(0, .box [.nils]), (1, .mp ((setM seen4 x12 true).map (encM .u32 (fun y => .bool y)))), (2, .box [.own 5 3 0 (row3 ++ ([(⟨x12, ([] : List TPrefix), ([] : List TExt)⟩ : TDomain)] : List TDomain)).length]), (4, .row 3 40 (([(⟨x12, ([] : List TPrefix), ([] : List TExt)⟩ : TDomain)] : List TDomain).map TDomain.c)), (5, .row 3 40 ((row3 ++ ([(⟨x12, ([] : List TPrefix), ([] : List TExt)⟩ : TDomain)] : List TDomain)).map TDomain.c))]) (next' := 6) rfl rfl rfl rfl rfl ?_
   refine RD.done0 ?_
   refine WK.nil (QF.normal (hK17 _ ?_))
   refine WK.regx mixed ?_
   refine GX.pure (v' := .int .i64 ((i12 + 1 : Nat) : Int)) rfl rfl rfl rfl (congrArg (PVal.int .i64) (wrap_up hlt13 hlen_13)) ?_
   refine GX.m rfl ?_
   refine GX.done ?_
   refine WK.nil (QF.normal ?_)
   exact hagain_13 _ (tags0.length - (i12 + 1)) ⟨[(0, .ro 1 (tags0.map c_u32)), (2, .ptr 0 0), (4, .mapr 1), (5, .ptr 2 0), (10, .ro 1 (tags0.map c_u32)), (11, .int .i64 (tags0.length : Int)), (12, .int .i64 ((i12 + 1) : Int))], [(0, .box [.nils]), (1, .mp ((setM seen4 x12 true).map (encM .u32 (fun y => .bool y)))), (2, .box [.own 3 3 0 (row3 ++ ([(⟨x12, ([] : List TPrefix), ([] : List TExt)⟩ : TDomain)] : List TDomain)).length]), (3, .row 3 40 ((row3 ++ ([(⟨x12, ([] : List TPrefix), ([] : List TExt)⟩ : TDomain)] : List TDomain)).map TDomain.c))], 4⟩ (by omega) (Conv.keep [0, 1, 2, 5] [] [0, 2, 4, 5, 10, 11, 12] rfl rfl (viewE_cons rfl rfl (viewE_cons rfl rfl (viewE_cons rfl rfl (viewE_cons rfl rfl (viewE_cons rfl rfl (viewE_cons rfl rfl (viewE_cons rfl rfl viewE_nil))))))) rfl rfl) ⟨i12 + 1, (setM seen4 x12 true), (row3 ++ ([(⟨x12, ([] : List TPrefix), ([] : List TExt)⟩ : TDomain)] : List TDomain)), (by omega), rfl, (by ((try simp only [List.length_append, List.length_cons, List.length_nil, decide_eq_true_eq] at *) <;> first | omega | (rw [wrap64_of (by omega) (by omega)]; omega))), hL_13, rfl⟩
  ·rw [hb18]; try simp only [hb18, cond_true, cond_false, Bool.true_and, Bool.false_and, Bool.true_or, Bool.false_or, Bool.not_true, Bool.not_false] at hL_13
   refine WK.condT rfl ?_
   refine WK.sr mixed ?_
   refine GX.q (.agg [.nils]) ?_
   refine GX.step0 (heap' := [(0, .box [.nils]), (1, .mp (seen4.map (encM .u32 (fun y => .bool y)))), (2, .box [.own 3 3 0 row3.length]), (3, .row 3 40 (row3.map TDomain.c))]) (next' := 4) rfl rfl rfl rfl rfl ?_
   refine GX.m rfl ?_
   refine GX.done ?_
   refine WK.ret ?_
   refine QF.ret ?_
   refine QF.ret (hQ_13 _ _ ?_)
   subst hL_13
   subst hR
   exact RetQ.frw [] (.inr rfl) rfl rfl rfl (.tup (.cons (.agg (.cons .nil .refl)) .refl))

theorem f30_ok (w0 : TWorld) (d1 : Int) (R : Bool) (hR : F30_redist_World_is w0 d1 = R) : FnOk Try.prog 30 [.agg (TWorld.c w0), .int .i64 d1] [] 0 (.bool R) [] 0 := by
 refine FnOk.wk i30 rfl rfl ?_
 unfold F30_redist_World_is at hR
 change WK _ _ _ [ac30] _ ⟨[(0, .agg (TWorld.c w0)), (1, .int .i64 d1)], [], 0⟩
 unfold ac30
 refine WK.sr mixed ?_
 refine GX.step (v' := .ptr 0 0) (heap' := [(0, .box (TWorld.c w0))]) (next' := 1) rfl rfl rfl rfl rfl rfl rfl ?_
 refine GX.m rfl ?_
 refine GX.done ?_
 refine WK.sr mixed ?_
 refine GX.m rfl ?_
 refine GX.q (.bool (decide (0 ≤ d1))) ?_
 refine GX.m rfl ?_
 rcases bool_two (decide (0 ≤ d1)) with hb1 | hb1
 ·rw [hb1]; try simp only [hb1, cond_true, cond_false, Bool.true_and, Bool.false_and, Bool.true_or, Bool.false_or, Bool.not_true, Bool.not_false] at hR
  refine GX.skip rfl rfl ?_
  refine GX.skip rfl rfl ?_
  refine GX.skip rfl rfl ?_
  refine GX.skip rfl rfl ?_
  refine GX.skip rfl rfl ?_
  refine GX.q (.bool false) ?_
  refine GX.m rfl ?_
  refine GX.done ?_
  refine WK.ret ?_
  subst hR
  exact RetQ.fr [] (.inr rfl) rfl rfl rfl rfl
 ·rw [hb1]; try simp only [hb1, cond_true, cond_false, Bool.true_and, Bool.false_and, Bool.true_or, Bool.false_or, Bool.not_true, Bool.not_false] at hR
  refine GX.m rfl ?_
  refine GX.q (.ptr 0 0) ?_
  refine GX.q (.ro 3 (w0.D.map TDomain.c)) ?_
  refine GX.pure (v' := .int .i64 (w0.D.length : Int)) rfl rfl rfl rfl (len_map _ _) ?_
  refine GX.q (.bool (decide (d1 < (w0.D.length : Int)))) ?_
  refine GX.q (.bool (decide (d1 < (w0.D.length : Int)))) ?_
  refine GX.m rfl ?_
  refine GX.done ?_
  refine WK.ret ?_
  subst hR
  exact RetQ.fr [] (.inr rfl) rfl rfl rfl rfl

theorem f52_ok (n0 : Int) (R : Bool) (hR : F52_addr_isLong n0 = R) : FnOk Try.prog 52 [.int .i64 n0] [] 0 (.bool R) [] 0 := by
 refine FnOk.wk i52 rfl rfl ?_
 unfold F52_addr_isLong at hR
 change WK _ _ _ [ac52] _ ⟨[(0, .int .i64 n0)], [], 0⟩
 unfold ac52
 refine WK.sr mixed ?_
 refine GX.m rfl ?_
 refine GX.done ?_
 refine WK.sr mixed ?_
 refine GX.m rfl ?_
 refine GX.q (.bool (decide (0 ≤ n0))) ?_
 refine GX.m rfl ?_
 rcases bool_two (decide (0 ≤ n0)) with hb1 | hb1
 ·rw [hb1]; try simp only [hb1, cond_true, cond_false, Bool.true_and, Bool.false_and, Bool.true_or, Bool.false_or, Bool.not_true, Bool.not_false] at hR
  refine GX.skip rfl rfl ?_
  refine GX.skip rfl rfl ?_
  refine GX.q (.bool false) ?_
  refine GX.m rfl ?_
  refine GX.done ?_
  refine WK.ret ?_
  subst hR
  exact RetQ.fr [] (.inr rfl) rfl rfl rfl rfl
 ·rw [hb1]; try simp only [hb1, cond_true, cond_false, Bool.true_and, Bool.false_and, Bool.true_or, Bool.false_or, Bool.not_true, Bool.not_false] at hR
  refine GX.m rfl ?_
  refine GX.q (.bool (decide (n0 ≤ 32))) ?_
  refine GX.q (.bool (decide (n0 ≤ 32))) ?_
  refine GX.m rfl ?_
  refine GX.done ?_
  refine WK.ret ?_
  subst hR
  exact RetQ.fr [] (.inr rfl) rfl rfl rfl rfl

theorem f53_ok (n0 : Int) (R : Int) (hR : F53_addr_Mask n0 = R) : FnOk Try.prog 53 [.int .i64 n0] [] 0 (.int .u32 R) [] 0 := by
 refine FnOk.wk i53 rfl rfl ?_
 unfold F53_addr_Mask at hR
 change WK _ _ _ [ac53] _ ⟨[(0, .int .i64 n0)], [], 0⟩
 unfold ac53
 refine WK.sr mixed ?_
 refine GX.m rfl ?_
 refine GX.done ?_
 refine WK.sr mixed ?_
 refine GX.m rfl ?_
 refine GX.q (.int .i64 (max_ n0 0)) ?_
 refine GX.q (.int .i64 (min_ (max_ n0 0) 32)) ?_
 refine GX.m rfl ?_
 refine GX.done ?_
 refine WK.sr mixed ?_
 refine GX.m rfl ?_
 refine GX.q (.int .i64 (IntKind.i64.wrap (32 - (min_ (max_ n0 0) 32)))) ?_
 refine GX.shl rfl rfl rfl (by ((try simp only [decide_eq_true_eq, decide_eq_false_iff_not, Bool.not_eq_true, Bool.not_eq_false] at *); first | omega | (rw [wrap64_of (by omega) (by omega)]; omega) | (unfold min_ max_; (repeat' split) <;> first | omega | (rw [wrap64_of (by omega) (by omega)]; omega)))) ?_
 refine GX.q (.int .u32 (IntKind.u32.wrap (shl_ .u64 4294967295 (IntKind.i64.wrap (32 - (min_ (max_ n0 0) 32)))))) ?_
 refine GX.m rfl ?_
 refine GX.done ?_
 refine WK.ret ?_
 subst hR
 exact RetQ.fr [] (.inr rfl) rfl rfl rfl rfl

theorem f31_ok (p0 : TPrefix) (R : Bool) (hR : F31_addr_May p0 = R) : FnOk Try.prog 31 [.agg (TPrefix.c p0)] [] 0 (.bool R) [] 0 := by
 refine FnOk.wk i31 rfl rfl ?_
 unfold F31_addr_May at hR
 change WK _ _ _ [ac31] _ ⟨[(0, .agg (TPrefix.c p0))], [], 0⟩
 unfold ac31
 refine WK.sr mixed ?_
 refine GX.step (v' := .ptr 0 0) (heap' := [(0, .box (TPrefix.c p0))]) (next' := 1) rfl rfl rfl rfl rfl rfl rfl ?_
 refine GX.m rfl ?_
 refine GX.done ?_
 refine WK.seq ?_
 refine WK.drawn mixed ?_
 refine RD.q (.ptr 0 1) ?_
 refine RD.q (.int .i64 p0.N) ?_
 generalize hc5 : F52_addr_isLong p0.N = c5 at hR
 try dsimp only at hR
 refine RD.callp (r := .bool c5) rfl rfl rfl (f52_ok p0.N _ hc5) rfl rfl ?_
 refine RD.m rfl ?_
 rcases bool_two (c5) with hb1 | hb1
 ·rw [hb1]; try simp only [hb1, cond_true, cond_false, Bool.true_and, Bool.false_and, Bool.true_or, Bool.false_or, Bool.not_true, Bool.not_false] at hR
  refine RD.skip rfl rfl ?_
  refine RD.skip rfl rfl ?_
  refine RD.skip rfl rfl ?_
  refine RD.skip rfl rfl ?_
  refine RD.skip rfl rfl ?_
  refine RD.skip rfl rfl ?_
  refine RD.skip rfl rfl ?_
  refine RD.q (.bool false) ?_
  refine RD.m rfl ?_
  refine RD.done rfl ?_
  refine WK.ret ?_
  subst hR
  exact RetQ.fr [] (.inr rfl) rfl rfl rfl rfl
 ·rw [hb1]; try simp only [hb1, cond_true, cond_false, Bool.true_and, Bool.false_and, Bool.true_or, Bool.false_or, Bool.not_true, Bool.not_false] at hR
  refine RD.q (.ptr 0 0) ?_
  refine RD.q (.int .u32 p0.A) ?_
  refine RD.q (.ptr 0 1) ?_
  refine RD.q (.int .i64 p0.N) ?_
  generalize hc11 : F53_addr_Mask p0.N = c11 at hR
  try dsimp only at hR
  refine RD.callp (r := .int .u32 c11) rfl rfl rfl (f53_ok p0.N _ hc11) rfl rfl ?_
  refine RD.q (.int .u32 (bit_andNot .u32 p0.A c11)) ?_
  refine RD.q (.bool (decide (bit_andNot .u32 p0.A c11 = 0))) ?_
  refine RD.q (.bool (decide (bit_andNot .u32 p0.A c11 = 0))) ?_
  refine RD.m rfl ?_
  refine RD.done rfl ?_
  refine WK.ret ?_
  subst hR
  exact RetQ.fr [] (.inr rfl) rfl rfl rfl rfl

theorem f61_ok (x0 : List TExt) (target1 : TPrefix) (gcmp2 : FuncId) (gcmp2f gcmp2c : List PVal) (hcmp2 : TExt → TPrefix → Int) (gcmp2k : PVal.closed.go gcmp2f = true ∧ PVal.closed.go gcmp2c = true) (gcmp2o : ∀ (y0 : TExt) (y1 : TPrefix) (R : Int), hcmp2 y0 y1 = R → FnOk Try.prog gcmp2 (gcmp2f ++ [.agg (TExt.c y0), .agg (TPrefix.c y1)] ++ gcmp2c) [] 0 (.int .i64 R) [] 0) (R : Int × Bool) (hR : F61_slices_BinarySearchFunc x0 target1 hcmp2 = R) : FnOk Try.prog 61 [.ro 4 (x0.map TExt.c), .agg (TPrefix.c target1), .fn gcmp2 gcmp2f gcmp2c] [] 0 (.tup [.int .i64 R.1, .bool R.2]) [] 0 := by
 refine FnOk.wk i61 rfl rfl ?_
 unfold F61_slices_BinarySearchFunc at hR
 change WK _ _ _ [ac61] _ ⟨[(0, .ro 4 (x0.map TExt.c)), (1, .agg (TPrefix.c target1)), (2, .fn gcmp2 gcmp2f gcmp2c)], [], 0⟩
 unfold ac61
 refine WK.sr mixed ?_
 refine GX.step (v' := .ptr 0 0) (heap' := [(0, .box (TPrefix.c target1))]) (next' := 1) rfl rfl rfl rfl rfl rfl rfl ?_
 refine GX.m rfl ?_
 refine GX.m rfl ?_
 refine GX.done ?_
 refine WK.sr mixed ?_
 refine GX.m rfl ?_
 refine GX.pure (v' := .int .i64 (x0.length : Int)) rfl rfl rfl rfl (len_map _ _) ?_
 refine GX.m rfl ?_
 refine GX.done ?_
 refine WK.sr mixed ?_
 refine GX.m rfl ?_
 refine GX.m rfl ?_
 refine GX.m rfl ?_
 refine GX.done ?_
 refine WK.seq ?_
 refine WK.len (t := 0) rfl (by simp) (fun hln0_10 => ?_)
 rw [List.length_map] at hln0_10
 generalize hZ_10 : F61_slices_BinarySearchFunc_l1 x0 target1 hcmp2 (((x0.length : Int) - 0).toNat + 1) 0 (x0.length : Int) = Z_10 at hR
 refine WK.forK (fun k s => ∃ (i9 : Int) (j10 : Int), (j10 - i9).toNat < k ∧ 0 ≤ i9 ∧ i9 ≤ j10 ∧ j10 ≤ (x0.length : Int) ∧ F61_slices_BinarySearchFunc_l1 x0 target1 hcmp2 k i9 j10 = Z_10 ∧ s = ⟨[(0, .ro 4 (x0.map TExt.c)), (2, .fn gcmp2 gcmp2f gcmp2c), (4, .ptr 0 0), (8, .int .i64 (x0.length : Int)), (9, .int .i64 i9), (10, .int .i64 j10)], [(0, .box (TPrefix.c target1))], 1⟩) (((x0.length : Int) - 0).toNat + 1) ⟨⟨[(0, .ro 4 (x0.map TExt.c)), (2, .fn gcmp2 gcmp2f gcmp2c), (4, .ptr 0 0), (8, .int .i64 (x0.length : Int)), (9, .int .i64 0), (10, .int .i64 (x0.length : Int))], [(0, .box (TPrefix.c target1))], 1⟩, Conv.keep [0] [] [0, 2, 4, 8, 9, 10] rfl rfl (viewE_cons rfl rfl (viewE_cons rfl (viewP_fnc gcmp2k) (viewE_cons rfl rfl (viewE_cons rfl rfl (viewE_cons rfl rfl (viewE_cons rfl rfl viewE_nil)))))) rfl rfl, 0, (x0.length : Int), Nat.lt_succ_self _, (by first | assumption | omega | ((try simp only [decide_eq_true_eq, decide_eq_false_iff_not, List.length_set] at *) <;> first | omega | (rw [mid_eq (by omega) (by omega) (by omega)]; omega) | (rw [mid_eq (by omega) (by omega) (by omega), wrap64_of (by omega) (by omega)]; omega) | (rw [wrap64_of (by omega) (by omega)]; omega))), (by first | assumption | omega | ((try simp only [decide_eq_true_eq, decide_eq_false_iff_not, List.length_set] at *) <;> first | omega | (rw [mid_eq (by omega) (by omega) (by omega)]; omega) | (rw [mid_eq (by omega) (by omega) (by omega), wrap64_of (by omega) (by omega)]; omega) | (rw [wrap64_of (by omega) (by omega)]; omega))), (by first | assumption | omega | ((try simp only [decide_eq_true_eq, decide_eq_false_iff_not, List.length_set] at *) <;> first | omega | (rw [mid_eq (by omega) (by omega) (by omega)]; omega) | (rw [mid_eq (by omega) (by omega) (by omega), wrap64_of (by omega) (by omega)]; omega) | (rw [wrap64_of (by omega) (by omega)]; omega))), hZ_10, rfl⟩ ?_
 rintro k10 _ ⟨i9, j10, hfu10, hinv10_w0, hinv10_w1, hinv10_w2, hL_10, rfl⟩ again_10 out_10 Q_10 hagain_10 hout_10 hQ_10
 obtain ⟨f10, rfl⟩ : ∃ f, k10 = f + 1 := ⟨k10 - 1, by omega⟩
 unfold F61_slices_BinarySearchFunc_l1 at hL_10; try dsimp only at hL_10
 refine WK.seq ?_
 refine WK.sr mixed ?_
 refine GX.m rfl ?_
 refine GX.m rfl ?_
 refine GX.q (.bool (decide (i9 < j10))) ?_
 refine GX.done ?_
 rcases bool_two (decide (i9 < j10)) with hb11 | hb11
 ·rw [hb11]; try simp only [hb11, cond_true, cond_false, Bool.true_and, Bool.false_and, Bool.true_or, Bool.false_or, Bool.not_true, Bool.not_false] at hL_10
  refine WK.condF rfl ?_
  refine WK.exit ?_
  refine QF.exit (hout_10 _ ?_)
  subst hL_10
  try dsimp only [cond_true, cond_false] at hR
  refine WK.seq ?_
  refine WK.drawn mixed ?_
  refine RD.m rfl ?_
  refine RD.m rfl ?_
  refine RD.m rfl ?_
  refine RD.q (.bool (decide (i9 < (x0.length : Int)))) ?_
  refine RD.m rfl ?_
  rcases bool_two (decide (i9 < (x0.length : Int))) with hb12 | hb12
  ·rw [hb12]; try simp only [hb12, cond_true, cond_false, Bool.true_and, Bool.false_and, Bool.true_or, Bool.false_or, Bool.not_true, Bool.not_false] at hR
   refine RD.skip rfl rfl ?_
   refine RD.skip rfl rfl ?_
   refine RD.skip rfl rfl ?_
   refine RD.skip rfl rfl ?_
   refine RD.skip rfl rfl ?_
   refine RD.skip rfl rfl ?_
   refine RD.skip rfl rfl ?_
   refine RD.skip rfl rfl ?_
   refine RD.q (.bool false) ?_
   refine RD.m rfl ?_
   refine RD.m rfl ?_
   refine RD.done rfl ?_
   refine WK.ret ?_
   subst hR
   exact RetQ.fr [] (.inr rfl) rfl rfl rfl rfl
  ·rw [hb12]; try simp only [hb12, cond_true, cond_false, Bool.true_and, Bool.false_and, Bool.true_or, Bool.false_or, Bool.not_true, Bool.not_false] at hR
   refine RD.m rfl ?_
   refine RD.m rfl ?_
   refine RD.m rfl ?_
   refine RD.idxT (c := TExt.c) (x := (x0.getD i9.toNat default)) rfl rfl rfl (by omega) (getD_at (by ((try simp only [decide_eq_true_eq, decide_eq_false_iff_not, Bool.not_eq_true, Bool.not_eq_false] at *); first | omega | (rw [wrap64_of (by omega) (by omega)]; omega) | (unfold min_ max_; (repeat' split) <;> first | omega | (rw [wrap64_of (by omega) (by omega)]; omega))))) ?_
   refine RD.q (.agg [.int .u32 (((x0.getD i9.toNat default).P).A), .int .i64 (((x0.getD i9.toNat default).P).N), .int .u32 ((x0.getD i9.toNat default).Tag), .bool ((x0.getD i9.toNat default).Marked)]) ?_
   refine RD.q (.agg (TPrefix.c target1)) ?_
   generalize hc46 : hcmp2 (⟨((x0.getD i9.toNat default).P), (x0.getD i9.toNat default).Tag, (x0.getD i9.toNat default).Marked⟩ : TExt) target1 = c46 at hR
   try dsimp only at hR
   refine RD.callvp (r := .int .i64 c46) rfl rfl rfl (gcmp2o (⟨((x0.getD i9.toNat default).P), (x0.getD i9.toNat default).Tag, (x0.getD i9.toNat default).Marked⟩ : TExt) target1 _ hc46) (closed3 gcmp2k.1 rfl gcmp2k.2) rfl ?_
   refine RD.q (.bool (decide (c46 = 0))) ?_
   refine RD.q (.bool (decide (c46 = 0))) ?_
   refine RD.m rfl ?_
   refine RD.m rfl ?_
   refine RD.done rfl ?_
   refine WK.ret ?_
   subst hR
   exact RetQ.fr [] (.inr rfl) rfl rfl rfl rfl
 ·rw [hb11]; try simp only [hb11, cond_true, cond_false, Bool.true_and, Bool.false_and, Bool.true_or, Bool.false_or, Bool.not_true, Bool.not_false] at hL_10
  refine WK.condT rfl ?_
  refine WK.skip ?_
  refine WK.blockK (fun _ hK13 => ?_)
  refine WK.sr mixed ?_
  refine GX.m rfl ?_
  refine GX.m rfl ?_
  refine GX.q (.int .i64 (IntKind.i64.wrap (i9 + j10))) ?_
  refine GX.q (.int .u64 (IntKind.u64.wrap (IntKind.i64.wrap (i9 + j10)))) ?_
  refine GX.q (.int .u64 (Int.fdiv (IntKind.u64.wrap (IntKind.i64.wrap (i9 + j10))) (2 ^ 1))) ?_
  refine GX.q (.int .i64 (IntKind.i64.wrap (Int.fdiv (IntKind.u64.wrap (IntKind.i64.wrap (i9 + j10))) (2 ^ 1)))) ?_
  refine GX.m rfl ?_
  refine GX.done ?_
  refine WK.seq ?_
  refine WK.drawn mixed ?_
  refine RD.m rfl ?_
  refine RD.m rfl ?_
  refine RD.m rfl ?_
  refine RD.idxT (c := TExt.c) (x := (x0.getD (IntKind.i64.wrap (Int.fdiv (IntKind.u64.wrap (IntKind.i64.wrap (i9 + j10))) (2 ^ 1))).toNat default)) rfl rfl rfl (by ((try simp only [decide_eq_true_eq] at *); rw [mid_eq (by omega) (by omega) (by omega)]; omega)) (getD_at (by ((try simp only [decide_eq_true_eq] at *); rw [mid_eq (by omega) (by omega) (by omega)]; omega))) ?_
  refine RD.q (.agg [.int .u32 (((x0.getD (IntKind.i64.wrap (Int.fdiv (IntKind.u64.wrap (IntKind.i64.wrap (i9 + j10))) (2 ^ 1))).toNat default).P).A), .int .i64 (((x0.getD (IntKind.i64.wrap (Int.fdiv (IntKind.u64.wrap (IntKind.i64.wrap (i9 + j10))) (2 ^ 1))).toNat default).P).N), .int .u32 ((x0.getD (IntKind.i64.wrap (Int.fdiv (IntKind.u64.wrap (IntKind.i64.wrap (i9 + j10))) (2 ^ 1))).toNat default).Tag), .bool ((x0.getD (IntKind.i64.wrap (Int.fdiv (IntKind.u64.wrap (IntKind.i64.wrap (i9 + j10))) (2 ^ 1))).toNat default).Marked)]) ?_
  refine RD.q (.agg (TPrefix.c target1)) ?_
  generalize hc30 : hcmp2 (⟨((x0.getD (IntKind.i64.wrap (Int.fdiv (IntKind.u64.wrap (IntKind.i64.wrap (i9 + j10))) (2 ^ 1))).toNat default).P), (x0.getD (IntKind.i64.wrap (Int.fdiv (IntKind.u64.wrap (IntKind.i64.wrap (i9 + j10))) (2 ^ 1))).toNat default).Tag, (x0.getD (IntKind.i64.wrap (Int.fdiv (IntKind.u64.wrap (IntKind.i64.wrap (i9 + j10))) (2 ^ 1))).toNat default).Marked⟩ : TExt) target1 = c30 at hL_10
  try dsimp only at hL_10
  refine RD.callvp (r := .int .i64 c30) rfl rfl rfl (gcmp2o (⟨((x0.getD (IntKind.i64.wrap (Int.fdiv (IntKind.u64.wrap (IntKind.i64.wrap (i9 + j10))) (2 ^ 1))).toNat default).P), (x0.getD (IntKind.i64.wrap (Int.fdiv (IntKind.u64.wrap (IntKind.i64.wrap (i9 + j10))) (2 ^ 1))).toNat default).Tag, (x0.getD (IntKind.i64.wrap (Int.fdiv (IntKind.u64.wrap (IntKind.i64.wrap (i9 + j10))) (2 ^ 1))).toNat default).Marked⟩ : TExt) target1 _ hc30) (closed3 gcmp2k.1 rfl gcmp2k.2) rfl ?_
  refine RD.q (.bool (decide (c30 < 0))) ?_
  refine RD.done rfl ?_
  rcases bool_two (decide (c30 < 0)) with hb14 | hb14
  ·rw [hb14]; try simp only [hb14, cond_true, cond_false, Bool.true_and, Bool.false_and, Bool.true_or, Bool.false_or, Bool.not_true, Bool.not_false] at hL_10
   refine WK.condF rfl ?_
   refine WK.regx mixed ?_
   refine GX.m rfl ?_
   refine GX.m rfl ?_
   refine GX.done ?_
   refine WK.nil (QF.normal (hK13 _ ?_))
   refine WK.nil (QF.normal ?_)
   exact hagain_10 _ f10 ⟨[(0, .ro 4 (x0.map TExt.c)), (2, .fn gcmp2 gcmp2f gcmp2c), (4, .ptr 0 0), (8, .int .i64 (x0.length : Int)), (9, .int .i64 i9), (10, .int .i64 (IntKind.i64.wrap (Int.fdiv (IntKind.u64.wrap (IntKind.i64.wrap (i9 + j10))) (2 ^ 1))))], [(0, .box (TPrefix.c target1))], 1⟩ (Nat.lt_succ_self _) (Conv.keep [0] [] [0, 2, 4, 8, 9, 10] rfl rfl (viewE_cons rfl rfl (viewE_cons rfl (viewP_fnc gcmp2k) (viewE_cons rfl rfl (viewE_cons rfl rfl (viewE_cons rfl rfl (viewE_cons rfl rfl viewE_nil)))))) rfl rfl) ⟨i9, (IntKind.i64.wrap (Int.fdiv (IntKind.u64.wrap (IntKind.i64.wrap (i9 + j10))) (2 ^ 1))), (by first | assumption | omega | ((try simp only [decide_eq_true_eq, decide_eq_false_iff_not, List.length_set] at *) <;> first | omega | (rw [mid_eq (by omega) (by omega) (by omega)]; omega) | (rw [mid_eq (by omega) (by omega) (by omega), wrap64_of (by omega) (by omega)]; omega) | (rw [wrap64_of (by omega) (by omega)]; omega))), (by first | assumption | omega | ((try simp only [decide_eq_true_eq, decide_eq_false_iff_not, List.length_set] at *) <;> first | omega | (rw [mid_eq (by omega) (by omega) (by omega)]; omega) | (rw [mid_eq (by omega) (by omega) (by omega), wrap64_of (by omega) (by omega)]; omega) | (rw [wrap64_of (by omega) (by omega)]; omega))), (by first | assumption | omega | ((try simp only [decide_eq_true_eq, decide_eq_false_iff_not, List.length_set] at *) <;> first | omega | (rw [mid_eq (by omega) (by omega) (by omega)]; omega) | (rw [mid_eq (by omega) (by omega) (by omega), wrap64_of (by omega) (by omega)]; omega) | (rw [wrap64_of (by omega) (by omega)]; omega))), (by first | assumption | omega | ((try simp only [decide_eq_true_eq, decide_eq_false_iff_not, List.length_set] at *) <;> first | omega | (rw [mid_eq (by omega) (by omega) (by omega)]; omega) | (rw [mid_eq (by omega) (by omega) (by omega), wrap64_of (by omega) (by omega)]; omega) | (rw [wrap64_of (by omega) (by omega)]; omega))), hL_10, rfl⟩
  ·rw [hb14]; try simp only [hb14, cond_true, cond_false, Bool.true_and, Bool.false_and, Bool.true_or, Bool.false_or, Bool.not_true, Bool.not_false] at hL_10
   refine WK.condT rfl ?_
   refine WK.regx mixed ?_
   refine GX.m rfl ?_
   refine GX.q (.int .i64 (IntKind.i64.wrap ((IntKind.i64.wrap (Int.fdiv (IntKind.u64.wrap (IntKind.i64.wrap (i9 + j10))) (2 ^ 1))) + 1))) ?_
   refine GX.m rfl ?_
   refine GX.done ?_
   refine WK.nil (QF.normal (hK13 _ ?_))
   refine WK.nil (QF.normal ?_)
   exact hagain_10 _ f10 ⟨[(0, .ro 4 (x0.map TExt.c)), (2, .fn gcmp2 gcmp2f gcmp2c), (4, .ptr 0 0), (8, .int .i64 (x0.length : Int)), (9, .int .i64 (IntKind.i64.wrap ((IntKind.i64.wrap (Int.fdiv (IntKind.u64.wrap (IntKind.i64.wrap (i9 + j10))) (2 ^ 1))) + 1))), (10, .int .i64 j10)], [(0, .box (TPrefix.c target1))], 1⟩ (Nat.lt_succ_self _) (Conv.keep [0] [] [0, 2, 4, 8, 9, 10] rfl rfl (viewE_cons rfl rfl (viewE_cons rfl (viewP_fnc gcmp2k) (viewE_cons rfl rfl (viewE_cons rfl rfl (viewE_cons rfl rfl (viewE_cons rfl rfl viewE_nil)))))) rfl rfl) ⟨(IntKind.i64.wrap ((IntKind.i64.wrap (Int.fdiv (IntKind.u64.wrap (IntKind.i64.wrap (i9 + j10))) (2 ^ 1))) + 1)), j10, (by first | assumption | omega | ((try simp only [decide_eq_true_eq, decide_eq_false_iff_not, List.length_set] at *) <;> first | omega | (rw [mid_eq (by omega) (by omega) (by omega)]; omega) | (rw [mid_eq (by omega) (by omega) (by omega), wrap64_of (by omega) (by omega)]; omega) | (rw [wrap64_of (by omega) (by omega)]; omega))), (by first | assumption | omega | ((try simp only [decide_eq_true_eq, decide_eq_false_iff_not, List.length_set] at *) <;> first | omega | (rw [mid_eq (by omega) (by omega) (by omega)]; omega) | (rw [mid_eq (by omega) (by omega) (by omega), wrap64_of (by omega) (by omega)]; omega) | (rw [wrap64_of (by omega) (by omega)]; omega))), (by first | assumption | omega | ((try simp only [decide_eq_true_eq, decide_eq_false_iff_not, List.length_set] at *) <;> first | omega | (rw [mid_eq (by omega) (by omega) (by omega)]; omega) | (rw [mid_eq (by omega) (by omega) (by omega), wrap64_of (by omega) (by omega)]; omega) | (rw [wrap64_of (by omega) (by omega)]; omega))), (by first | assumption | omega | ((try simp only [decide_eq_true_eq, decide_eq_false_iff_not, List.length_set] at *) <;> first | omega | (rw [mid_eq (by omega) (by omega) (by omega)]; omega) | (rw [mid_eq (by omega) (by omega) (by omega), wrap64_of (by omega) (by omega)]; omega) | (rw [wrap64_of (by omega) (by omega)]; omega))), hL_10, rfl⟩

theorem f66_ok (vals0 : List Int) (R : Int) (hR : F66_cmp_Or vals0 = R) : FnOk Try.prog 66 [.ro 1 (vals0.map c_i64)] [] 0 (.int .i64 R) [] 0 := by
 refine FnOk.wk i66 rfl rfl ?_
 unfold F66_cmp_Or at hR
 change WK _ _ _ [ac66] _ ⟨[(0, .ro 1 (vals0.map c_i64))], [], 0⟩
 unfold ac66
 refine WK.sr mixed ?_
 refine GX.m rfl ?_
 refine GX.done ?_
 refine WK.sr mixed ?_
 refine GX.m rfl ?_
 refine GX.done ?_
 refine WK.seq ?_
 refine WK.sr mixed ?_
 refine GX.m rfl ?_
 refine GX.pure (v' := .int .i64 (vals0.length : Int)) rfl rfl rfl rfl (len_map _ _) ?_
 refine GX.m rfl ?_
 refine GX.done ?_
 refine WK.len (t := 0) rfl (by simp) (fun hlen_1 => ?_)
 rw [List.length_map] at hlen_1
 generalize hZ_1 : F66_cmp_Or_l1 vals0 = Z_1 at hR
 refine WK.forK (fun k s => ∃ (i8 : Nat), i8 ≤ vals0.length ∧ k = vals0.length - i8 ∧ F66_cmp_Or_l1 (vals0.drop i8) = Z_1 ∧ s = ⟨[(3, .int .i64 0), (6, .ro 1 (vals0.map c_i64)), (7, .int .i64 (vals0.length : Int)), (8, .int .i64 (i8 : Int))], [], 0⟩) vals0.length ⟨⟨[(3, .int .i64 0), (6, .ro 1 (vals0.map c_i64)), (7, .int .i64 (vals0.length : Int)), (8, .int .i64 (0 : Int))], [], 0⟩, Conv.keep [] [] [3, 6, 7, 8] rfl rfl (viewE_cons rfl rfl (viewE_cons rfl rfl (viewE_cons rfl rfl (viewE_cons rfl rfl viewE_nil)))) rfl rfl, 0, (by omega), rfl, hZ_1, rfl⟩ ?_
 rintro _ _ ⟨i8, hi_1, rfl, hL_1, rfl⟩ again_1 out_1 Q_1 hagain_1 hout_1 hQ_1
 refine WK.sr mixed ?_
 refine GX.q (.bool (decide ((i8 : Int) < (vals0.length : Int)))) ?_
 refine GX.done ?_
 refine WK.seq ?_
 rcases bool_two (decide ((i8 : Int) < (vals0.length : Int))) with hb2 | hb2
 ·rw [hb2]
  rw [drop_end hb2, F66_cmp_Or_l1] at hL_1
  refine WK.condF rfl ?_
  refine WK.exit ?_
  refine QF.exit (hout_1 _ ?_)
  subst hL_1
  try dsimp only [cond_true, cond_false] at hR
  refine WK.sr mixed ?_
  refine GX.m rfl ?_
  refine GX.m rfl ?_
  refine GX.done ?_
  refine WK.ret ?_
  subst hR
  exact RetQ.fr [] (.inr rfl) rfl rfl rfl rfl
 ·rw [hb2]
  obtain ⟨x8, hx1, hd1, hlt1⟩ := drop_more hb2
  rw [hd1, F66_cmp_Or_l1] at hL_1
  refine WK.condT rfl ?_
  refine WK.skip ?_
  refine WK.seq ?_
  refine WK.blockK (fun _ hK3 => ?_)
  refine WK.sr mixed ?_
  refine GX.idxT (c := c_i64) (x := x8) rfl rfl rfl (Int.natCast_nonneg _) hx1 ?_
  refine GX.q (.int .i64 x8) ?_
  refine GX.m rfl ?_
  refine GX.done ?_
  refine WK.sr mixed ?_
  refine GX.m rfl ?_
  refine GX.m rfl ?_
  refine GX.q (.bool (!decide (x8 = 0))) ?_
  refine GX.done ?_
  rcases bool_two (decide (x8 = 0)) with hb4 | hb4
  ·rw [hb4]; try simp only [hb4, cond_true, cond_false, Bool.true_and, Bool.false_and, Bool.true_or, Bool.false_or, Bool.not_true, Bool.not_false] at hL_1
   refine WK.condT rfl ?_
   refine WK.sr mixed ?_
   refine GX.m rfl ?_
   refine GX.m rfl ?_
   refine GX.done ?_
   refine WK.ret ?_
   refine QF.ret ?_
   refine QF.ret (hQ_1 _ _ ?_)
   subst hL_1
   subst hR
   exact RetQ.fr [] (.inr rfl) rfl rfl rfl rfl
  ·rw [hb4]; try simp only [hb4, cond_true, cond_false, Bool.true_and, Bool.false_and, Bool.true_or, Bool.false_or, Bool.not_true, Bool.not_false] at hL_1
   refine WK.condF rfl ?_
   refine WK.skip ?_
   refine WK.nil (QF.normal (hK3 _ ?_))
   refine WK.regx mixed ?_
   refine GX.pure (v' := .int .i64 ((i8 + 1 : Nat) : Int)) rfl rfl rfl rfl (congrArg (PVal.int .i64) (wrap_up hlt1 hlen_1)) ?_
   refine GX.m rfl ?_
   refine GX.done ?_
   refine WK.nil (QF.normal ?_)
   exact hagain_1 _ (vals0.length - (i8 + 1)) ⟨[(3, .int .i64 0), (6, .ro 1 (vals0.map c_i64)), (7, .int .i64 (vals0.length : Int)), (8, .int .i64 ((i8 + 1) : Int))], [], 0⟩ (by omega) (Conv.keep [] [] [3, 6, 7, 8] rfl rfl (viewE_cons rfl rfl (viewE_cons rfl rfl (viewE_cons rfl rfl (viewE_cons rfl rfl viewE_nil)))) rfl rfl) ⟨i8 + 1, (by omega), rfl, hL_1, rfl⟩

theorem f71_ok (x0 : Int) (R : Bool) (hR : F71_cmp_isNaN x0 = R) : FnOk Try.prog 71 [.int .u32 x0] [] 0 (.bool R) [] 0 := by
 refine FnOk.wk i71 rfl rfl ?_
 unfold F71_cmp_isNaN at hR
 change WK _ _ _ [ac71] _ ⟨[(0, .int .u32 x0)], [], 0⟩
 unfold ac71
 refine WK.sr mixed ?_
 refine GX.m rfl ?_
 refine GX.done ?_
 refine WK.sr mixed ?_
 refine GX.m rfl ?_
 refine GX.m rfl ?_
 refine GX.q (.bool (!decide (x0 = x0))) ?_
 refine GX.m rfl ?_
 refine GX.done ?_
 refine WK.ret ?_
 subst hR
 exact RetQ.fr [] (.inr rfl) rfl rfl rfl rfl

theorem f67_ok (x0 : Int) (y1 : Int) (R : Int) (hR : F67_cmp_Compare x0 y1 = R) : FnOk Try.prog 67 [.int .u32 x0, .int .u32 y1] [] 0 (.int .i64 R) [] 0 := by
 refine FnOk.wk i67 rfl rfl ?_
 unfold F67_cmp_Compare at hR
 change WK _ _ _ [ac67] _ ⟨[(0, .int .u32 x0), (1, .int .u32 y1)], [], 0⟩
 unfold ac67
 refine WK.sr mixed ?_
 refine GX.m rfl ?_
 refine GX.done ?_
 refine WK.sr mixed ?_
 refine GX.m rfl ?_
 generalize hc8 : F71_cmp_isNaN x0 = c8 at hR
 try dsimp only at hR
 refine GX.callp (r := .bool c8) rfl rfl rfl (f71_ok x0 _ hc8) rfl rfl ?_
 refine GX.m rfl ?_
 refine GX.done ?_
 refine WK.sr mixed ?_
 refine GX.m rfl ?_
 generalize hc10 : F71_cmp_isNaN y1 = c10 at hR
 try dsimp only at hR
 refine GX.callp (r := .bool c10) rfl rfl rfl (f71_ok y1 _ hc10) rfl rfl ?_
 refine GX.m rfl ?_
 refine GX.done ?_
 refine WK.seq ?_
 refine WK.sr mixed ?_
 refine GX.m rfl ?_
 refine GX.done ?_
 rcases bool_two (c8) with hb1 | hb1
 ·rw [hb1]; try simp only [hb1, cond_true, cond_false, Bool.true_and, Bool.false_and, Bool.true_or, Bool.false_or, Bool.not_true, Bool.not_false] at hR
  refine WK.condF rfl ?_
  refine WK.skip ?_
  refine WK.seq ?_
  refine WK.sr mixed ?_
  refine GX.m rfl ?_
  refine GX.done ?_
  rcases bool_two (c10) with hb2 | hb2
  ·rw [hb2]; try simp only [hb2, cond_true, cond_false, Bool.true_and, Bool.false_and, Bool.true_or, Bool.false_or, Bool.not_true, Bool.not_false] at hR
   refine WK.condF rfl ?_
   refine WK.skip ?_
   refine WK.seq ?_
   refine WK.sr mixed ?_
   refine GX.m rfl ?_
   refine GX.m rfl ?_
   refine GX.q (.bool (decide (x0 < y1))) ?_
   refine GX.done ?_
   rcases bool_two (decide (x0 < y1)) with hb3 | hb3
   ·rw [hb3]; try simp only [hb3, cond_true, cond_false, Bool.true_and, Bool.false_and, Bool.true_or, Bool.false_or, Bool.not_true, Bool.not_false] at hR
    refine WK.condF rfl ?_
    refine WK.skip ?_
    refine WK.seq ?_
    refine WK.sr mixed ?_
    refine GX.m rfl ?_
    refine GX.m rfl ?_
    refine GX.q (.bool (decide (y1 < x0))) ?_
    refine GX.done ?_
    rcases bool_two (decide (y1 < x0)) with hb4 | hb4
    ·rw [hb4]; try simp only [hb4, cond_true, cond_false, Bool.true_and, Bool.false_and, Bool.true_or, Bool.false_or, Bool.not_true, Bool.not_false] at hR
     refine WK.condF rfl ?_
     refine WK.skip ?_
     refine WK.sr mixed ?_
     refine GX.m rfl ?_
     refine GX.done ?_
     refine WK.ret ?_
     subst hR
     exact RetQ.fr [] (.inr rfl) rfl rfl rfl rfl
    ·rw [hb4]; try simp only [hb4, cond_true, cond_false, Bool.true_and, Bool.false_and, Bool.true_or, Bool.false_or, Bool.not_true, Bool.not_false] at hR
     refine WK.condT rfl ?_
     refine WK.sr mixed ?_
     refine GX.m rfl ?_
     refine GX.done ?_
     refine WK.ret ?_
     subst hR
     exact RetQ.fr [] (.inr rfl) rfl rfl rfl rfl
   ·rw [hb3]; try simp only [hb3, cond_true, cond_false, Bool.true_and, Bool.false_and, Bool.true_or, Bool.false_or, Bool.not_true, Bool.not_false] at hR
    refine WK.condT rfl ?_
    refine WK.sr mixed ?_
    refine GX.m rfl ?_
    refine GX.done ?_
    refine WK.ret ?_
    subst hR
    exact RetQ.fr [] (.inr rfl) rfl rfl rfl rfl
  ·rw [hb2]; try simp only [hb2, cond_true, cond_false, Bool.true_and, Bool.false_and, Bool.true_or, Bool.false_or, Bool.not_true, Bool.not_false] at hR
   refine WK.condT rfl ?_
   refine WK.sr mixed ?_
   refine GX.m rfl ?_
   refine GX.done ?_
   refine WK.ret ?_
   subst hR
   exact RetQ.fr [] (.inr rfl) rfl rfl rfl rfl
 ·rw [hb1]; try simp only [hb1, cond_true, cond_false, Bool.true_and, Bool.false_and, Bool.true_or, Bool.false_or, Bool.not_true, Bool.not_false] at hR
  refine WK.condT rfl ?_
  refine WK.seq ?_
  refine WK.sr mixed ?_
  refine GX.m rfl ?_
  refine GX.done ?_
  rcases bool_two (c10) with hb5 | hb5
  ·rw [hb5]; try simp only [hb5, cond_true, cond_false, Bool.true_and, Bool.false_and, Bool.true_or, Bool.false_or, Bool.not_true, Bool.not_false] at hR
   refine WK.condF rfl ?_
   refine WK.skip ?_
   refine WK.sr mixed ?_
   refine GX.m rfl ?_
   refine GX.done ?_
   refine WK.ret ?_
   subst hR
   exact RetQ.fr [] (.inr rfl) rfl rfl rfl rfl
  ·rw [hb5]; try simp only [hb5, cond_true, cond_false, Bool.true_and, Bool.false_and, Bool.true_or, Bool.false_or, Bool.not_true, Bool.not_false] at hR
   refine WK.condT rfl ?_
   refine WK.sr mixed ?_
   refine GX.m rfl ?_
   refine GX.done ?_
   refine WK.ret ?_
   subst hR
   exact RetQ.fr [] (.inr rfl) rfl rfl rfl rfl

theorem f72_ok (x0 : Int) (R : Bool) (hR : F72_cmp_isNaN x0 = R) : FnOk Try.prog 72 [.int .i64 x0] [] 0 (.bool R) [] 0 := by
 refine FnOk.wk i72 rfl rfl ?_
 unfold F72_cmp_isNaN at hR
 change WK _ _ _ [ac72] _ ⟨[(0, .int .i64 x0)], [], 0⟩
 unfold ac72
 refine WK.sr mixed ?_
 refine GX.m rfl ?_
 refine GX.done ?_
 refine WK.sr mixed ?_
 refine GX.m rfl ?_
 refine GX.m rfl ?_
 refine GX.q (.bool (!decide (x0 = x0))) ?_
 refine GX.m rfl ?_
 refine GX.done ?_
 refine WK.ret ?_
 subst hR
 exact RetQ.fr [] (.inr rfl) rfl rfl rfl rfl

theorem f68_ok (x0 : Int) (y1 : Int) (R : Int) (hR : F68_cmp_Compare x0 y1 = R) : FnOk Try.prog 68 [.int .i64 x0, .int .i64 y1] [] 0 (.int .i64 R) [] 0 := by
 refine FnOk.wk i68 rfl rfl ?_
 unfold F68_cmp_Compare at hR
 change WK _ _ _ [ac68] _ ⟨[(0, .int .i64 x0), (1, .int .i64 y1)], [], 0⟩
 unfold ac68
 refine WK.sr mixed ?_
 refine GX.m rfl ?_
 refine GX.done ?_
 refine WK.sr mixed ?_
 refine GX.m rfl ?_
 generalize hc8 : F72_cmp_isNaN x0 = c8 at hR
 try dsimp only at hR
 refine GX.callp (r := .bool c8) rfl rfl rfl (f72_ok x0 _ hc8) rfl rfl ?_
 refine GX.m rfl ?_
 refine GX.done ?_
 refine WK.sr mixed ?_
 refine GX.m rfl ?_
 generalize hc10 : F72_cmp_isNaN y1 = c10 at hR
 try dsimp only at hR
 refine GX.callp (r := .bool c10) rfl rfl rfl (f72_ok y1 _ hc10) rfl rfl ?_
 refine GX.m rfl ?_
 refine GX.done ?_
 refine WK.seq ?_
 refine WK.sr mixed ?_
 refine GX.m rfl ?_
 refine GX.done ?_
 rcases bool_two (c8) with hb1 | hb1
 ·rw [hb1]; try simp only [hb1, cond_true, cond_false, Bool.true_and, Bool.false_and, Bool.true_or, Bool.false_or, Bool.not_true, Bool.not_false] at hR
  refine WK.condF rfl ?_
  refine WK.skip ?_
  refine WK.seq ?_
  refine WK.sr mixed ?_
  refine GX.m rfl ?_
  refine GX.done ?_
  rcases bool_two (c10) with hb2 | hb2
  ·rw [hb2]; try simp only [hb2, cond_true, cond_false, Bool.true_and, Bool.false_and, Bool.true_or, Bool.false_or, Bool.not_true, Bool.not_false] at hR
   refine WK.condF rfl ?_
   refine WK.skip ?_
   refine WK.seq ?_
   refine WK.sr mixed ?_
   refine GX.m rfl ?_
   refine GX.m rfl ?_
   refine GX.q (.bool (decide (x0 < y1))) ?_
   refine GX.done ?_
   rcases bool_two (decide (x0 < y1)) with hb3 | hb3
   ·rw [hb3]; try simp only [hb3, cond_true, cond_false, Bool.true_and, Bool.false_and, Bool.true_or, Bool.false_or, Bool.not_true, Bool.not_false] at hR
    refine WK.condF rfl ?_
    refine WK.skip ?_
    refine WK.seq ?_
    refine WK.sr mixed ?_
    refine GX.m rfl ?_
    refine GX.m rfl ?_
    refine GX.q (.bool (decide (y1 < x0))) ?_
    refine GX.done ?_
    rcases bool_two (decide (y1 < x0)) with hb4 | hb4
    ·rw [hb4]; try simp only [hb4, cond_true, cond_false, Bool.true_and, Bool.false_and, Bool.true_or, Bool.false_or, Bool.not_true, Bool.not_false] at hR
     refine WK.condF rfl ?_
     refine WK.skip ?_
     refine WK.sr mixed ?_
     refine GX.m rfl ?_
     refine GX.done ?_
     refine WK.ret ?_
     subst hR
     exact RetQ.fr [] (.inr rfl) rfl rfl rfl rfl
    ·rw [hb4]; try simp only [hb4, cond_true, cond_false, Bool.true_and, Bool.false_and, Bool.true_or, Bool.false_or, Bool.not_true, Bool.not_false] at hR
     refine WK.condT rfl ?_
     refine WK.sr mixed ?_
     refine GX.m rfl ?_
     refine GX.done ?_
     refine WK.ret ?_
     subst hR
     exact RetQ.fr [] (.inr rfl) rfl rfl rfl rfl
   ·rw [hb3]; try simp only [hb3, cond_true, cond_false, Bool.true_and, Bool.false_and, Bool.true_or, Bool.false_or, Bool.not_true, Bool.not_false] at hR
    refine WK.condT rfl ?_
    refine WK.sr mixed ?_
    refine GX.m rfl ?_
    refine GX.done ?_
    refine WK.ret ?_
    subst hR
    exact RetQ.fr [] (.inr rfl) rfl rfl rfl rfl
  ·rw [hb2]; try simp only [hb2, cond_true, cond_false, Bool.true_and, Bool.false_and, Bool.true_or, Bool.false_or, Bool.not_true, Bool.not_false] at hR
   refine WK.condT rfl ?_
   refine WK.sr mixed ?_
   refine GX.m rfl ?_
   refine GX.done ?_
   refine WK.ret ?_
   subst hR
   exact RetQ.fr [] (.inr rfl) rfl rfl rfl rfl
 ·rw [hb1]; try simp only [hb1, cond_true, cond_false, Bool.true_and, Bool.false_and, Bool.true_or, Bool.false_or, Bool.not_true, Bool.not_false] at hR
  refine WK.condT rfl ?_
  refine WK.seq ?_
  refine WK.sr mixed ?_
  refine GX.m rfl ?_
  refine GX.done ?_
  rcases bool_two (c10) with hb5 | hb5
  ·rw [hb5]; try simp only [hb5, cond_true, cond_false, Bool.true_and, Bool.false_and, Bool.true_or, Bool.false_or, Bool.not_true, Bool.not_false] at hR
   refine WK.condF rfl ?_
   refine WK.skip ?_
   refine WK.sr mixed ?_
   refine GX.m rfl ?_
   refine GX.done ?_
   refine WK.ret ?_
   subst hR
   exact RetQ.fr [] (.inr rfl) rfl rfl rfl rfl
  ·rw [hb5]; try simp only [hb5, cond_true, cond_false, Bool.true_and, Bool.false_and, Bool.true_or, Bool.false_or, Bool.not_true, Bool.not_false] at hR
   refine WK.condT rfl ?_
   refine WK.sr mixed ?_
   refine GX.m rfl ?_
   refine GX.done ?_
   refine WK.ret ?_
   subst hR
   exact RetQ.fr [] (.inr rfl) rfl rfl rfl rfl

theorem f56_ok (a0 : TPrefix) (b1 : TPrefix) (R : Int) (hR : F56_redist_order a0 b1 = R) : FnOk Try.prog 56 [.agg (TPrefix.c a0), .agg (TPrefix.c b1)] [] 0 (.int .i64 R) [] 0 := by
 refine FnOk.wk i56 rfl rfl ?_
 unfold F56_redist_order at hR
 change WK _ _ _ [ac56] _ ⟨[(0, .agg (TPrefix.c a0)), (1, .agg (TPrefix.c b1))], [], 0⟩
 unfold ac56
 refine WK.sr mixed ?_
 refine GX.step (v' := .ptr 0 0) (heap' := [(0, .box (TPrefix.c a0))]) (next' := 1) rfl rfl rfl rfl rfl rfl rfl ?_
 refine GX.step (v' := .ptr 1 0) (heap' := [(0, .box (TPrefix.c a0)), (1, .box (TPrefix.c b1))]) (next' := 2) rfl rfl rfl rfl rfl rfl rfl ?_
 refine GX.m rfl ?_
 refine GX.done ?_
 refine WK.seq ?_
 refine WK.drawn mixed ?_
 refine RD.q (.ptr 0 0) ?_
 refine RD.q (.int .u32 a0.A) ?_
 refine RD.q (.ptr 1 0) ?_
 refine RD.q (.int .u32 b1.A) ?_
 generalize hc9 : F67_cmp_Compare a0.A b1.A = c9 at hR
 try dsimp only at hR
 refine RD.callp (r := .int .i64 c9) rfl rfl rfl (f67_ok a0.A b1.A _ hc9) rfl rfl ?_
 refine RD.q (.ptr 0 1) ?_
 refine RD.q (.int .i64 a0.N) ?_
 refine RD.q (.ptr 1 1) ?_
 refine RD.q (.int .i64 b1.N) ?_
 generalize hc14 : F68_cmp_Compare a0.N b1.N = c14 at hR
 try dsimp only at hR
 refine RD.callp (r := .int .i64 c14) rfl rfl rfl (f68_ok a0.N b1.N _ hc14) rfl rfl ?_
 refine RD.step (v' := .own 2 1 0 (([c9, c14] : List Int)).length) (heap' := [(0, .box (TPrefix.c a0)), (1, .box (TPrefix.c b1)), (2, .row 1 3 (([c9, c14] : List Int).map c_i64))]) (next' := 3) rfl rfl rfl rfl rfl rfl rfl ?_
 generalize hc16 : F66_cmp_Or ([c9, c14] : List Int) = c16 at hR
 try dsimp only at hR
 refine RD.callbp (r := .int .i64 c16) [2] rfl rfl rfl (viewGo_cons (view_rowT rfl rfl) viewGo_nil) (f66_ok ([c9, c14] : List Int) _ hc16) rfl rfl ?_
 refine RD.m rfl ?_
 refine RD.done rfl ?_
 refine WK.ret ?_
 subst hR
 exact RetQ.fr [] (.inr rfl) rfl rfl rfl rfl

theorem f62_ok (x0 : TExt) (p1 : TPrefix) (R : Int) (hR : F62_redist_Domain_at_1 x0 p1 = R) : FnOk Try.prog 62 [.agg (TExt.c x0), .agg (TPrefix.c p1)] [] 0 (.int .i64 R) [] 0 := by
 refine FnOk.wk i62 rfl rfl ?_
 unfold F62_redist_Domain_at_1 at hR
 change WK _ _ _ [ac62] _ ⟨[(0, .agg (TExt.c x0)), (1, .agg (TPrefix.c p1))], [], 0⟩
 unfold ac62
 refine WK.sr mixed ?_
 refine GX.step (v' := .ptr 0 0) (heap' := [(0, .box (TExt.c x0))]) (next' := 1) rfl rfl rfl rfl rfl rfl rfl ?_
 refine GX.step (v' := .ptr 1 0) (heap' := [(0, .box (TExt.c x0)), (1, .box (TPrefix.c p1))]) (next' := 2) rfl rfl rfl rfl rfl rfl rfl ?_
 refine GX.m rfl ?_
 refine GX.done ?_
 refine WK.sr mixed ?_
 refine GX.q (.ptr 0 0) ?_
 refine GX.q (.agg [.int .u32 x0.P.A, .int .i64 x0.P.N]) ?_
 refine GX.q (.agg (TPrefix.c p1)) ?_
 generalize hc8 : F56_redist_order x0.P p1 = c8 at hR
 try dsimp only at hR
 refine GX.callp (r := .int .i64 c8) rfl rfl rfl (f56_ok x0.P p1 _ hc8) rfl rfl ?_
 refine GX.m rfl ?_
 refine GX.done ?_
 refine WK.ret ?_
 subst hR
 exact RetQ.fr [] (.inr rfl) rfl rfl rfl rfl

theorem f43_ok (d0 : TDomain) (p1 : TPrefix) (R : Int × Bool) (hR : F43_redist_Domain_at d0 p1 = R) : FnOk Try.prog 43 [.agg (TDomain.c d0), .agg (TPrefix.c p1)] [] 0 (.tup [.int .i64 R.1, .bool R.2]) [] 0 := by
 refine FnOk.wk i43 rfl rfl ?_
 unfold F43_redist_Domain_at at hR
 change WK _ _ _ [ac43] _ ⟨[(0, .agg (TDomain.c d0)), (1, .agg (TPrefix.c p1))], [], 0⟩
 unfold ac43
 refine WK.sr mixed ?_
 refine GX.step (v' := .ptr 0 0) (heap' := [(0, .box (TDomain.c d0))]) (next' := 1) rfl rfl rfl rfl rfl rfl rfl ?_
 refine GX.step (v' := .ptr 1 0) (heap' := [(0, .box (TDomain.c d0)), (1, .box (TPrefix.c p1))]) (next' := 2) rfl rfl rfl rfl rfl rfl rfl ?_
 refine GX.m rfl ?_
 refine GX.m rfl ?_
 refine GX.done ?_
 refine WK.sr mixed ?_
 refine GX.q (.ptr 0 2) ?_
 refine GX.q (.ro 4 (d0.Ext.map TExt.c)) ?_
 refine GX.q (.agg (TPrefix.c p1)) ?_
 generalize hc9 : F61_slices_BinarySearchFunc d0.Ext p1 (fun y0 y1 => F62_redist_Domain_at_1 y0 y1) = c9 at hR
 obtain ⟨c9a, c9b⟩ := c9; try dsimp only at hR
 refine GX.callp (r := .tup [.int .i64 c9a, .bool c9b]) rfl rfl rfl (f61_ok d0.Ext p1 62 [] [] (fun y0 y1 => F62_redist_Domain_at_1 y0 y1) ⟨rfl, rfl⟩ (fun y0 y1 _ hr => f62_ok y0 y1 _ hr) _ hc9) rfl rfl ?_
 refine GX.q (.int .i64 c9a) ?_
 refine GX.q (.bool c9b) ?_
 refine GX.m rfl ?_
 refine GX.m rfl ?_
 refine GX.done ?_
 refine WK.ret ?_
 subst hR
 exact RetQ.fr [] (.inr rfl) rfl rfl rfl rfl

theorem f32_ok (d0 : TDomain) (p1 : TPrefix) (hp0 : InvD d0) (R : TDomain × Bool) (hR : F32_redist_Domain_without d0 p1 = R) : FnOk Try.prog 32 [.agg (TDomain.c d0), .agg (TPrefix.c p1)] [] 0 (.tup [.agg (TDomain.c R.1), .bool R.2]) [] 0 := by
 refine FnOk.wk i32 rfl rfl ?_
 unfold F32_redist_Domain_without at hR
 change WK _ _ _ [ac32] _ ⟨[(0, .agg (TDomain.c d0)), (1, .agg (TPrefix.c p1))], [], 0⟩
 unfold ac32
 refine WK.sr mixed ?_
 refine GX.step (v' := .ptr 0 0) (heap' := [(0, .box (TDomain.c d0))]) (next' := 1) rfl rfl rfl rfl rfl rfl rfl ?_
 refine GX.step (v' := .ptr 1 0) (heap' := [(0, .box (TDomain.c d0)), (1, .box (TPrefix.c p1))]) (next' := 2) rfl rfl rfl rfl rfl rfl rfl ?_
 refine GX.step (v' := .ptr 2 0) (heap' := [(0, .box (TDomain.c d0)), (1, .box (TPrefix.c p1)), (2, .box [.int .u32 0, .nils, .nils])]) (next' := 3) rfl rfl rfl rfl rfl rfl rfl ?_
 refine GX.m rfl ?_
 refine GX.done ?_
 refine WK.sr mixed ?_
 refine GX.q (.agg (TDomain.c d0)) ?_
 refine GX.q (.agg (TPrefix.c p1)) ?_
 generalize hc11 : F43_redist_Domain_at d0 p1 = c11 at hR
 have hpo0_c11 := post_at d0 p1 (by omega); rw [hc11] at hpo0_c11
 have hpo1_c11 := post_at2 d0 p1 (by omega); rw [hc11] at hpo1_c11
 obtain ⟨c11a, c11b⟩ := c11; try dsimp only at hR; try dsimp only at hpo0_c11; try dsimp only at hpo1_c11
 refine GX.callp (r := .tup [.int .i64 c11a, .bool c11b]) rfl rfl rfl (f43_ok d0 p1 _ hc11) rfl rfl ?_
 refine GX.m rfl ?_
 refine GX.q (.int .i64 c11a) ?_
 refine GX.q (.bool c11b) ?_
 refine GX.m rfl ?_
 refine GX.m rfl ?_
 refine GX.done ?_
 refine WK.seq ?_
 refine WK.sr mixed ?_
 refine GX.m rfl ?_
 refine GX.done ?_
 rcases bool_two (c11b) with hb1 | hb1
 ·rw [hb1]; try simp only [hb1, cond_true, cond_false, Bool.true_and, Bool.false_and, Bool.true_or, Bool.false_or, Bool.not_true, Bool.not_false] at hR
  refine WK.condF rfl ?_
  refine WK.skip ?_
  refine WK.sr mixed ?_
  refine GX.q (.agg (TDomain.c d0)) ?_
  refine GX.m rfl ?_
  refine GX.step0 (heap' := [(0, .box (TDomain.c d0)), (1, .box (TPrefix.c p1)), (2, .box (TDomain.c d0))]) (next' := 3) rfl rfl rfl rfl rfl ?_
  refine GX.m rfl ?_
  refine GX.done ?_
  refine WK.ret ?_
  subst hR
  exact RetQ.fr [] (.inr rfl) rfl rfl rfl rfl
 ·rw [hb1]; try simp only [hb1, cond_true, cond_false, Bool.true_and, Bool.false_and, Bool.true_or, Bool.false_or, Bool.not_true, Bool.not_false] at hR
  try have hq_hpo1_c11 := hpo1_c11 hb1
  refine WK.condT rfl ?_
  refine WK.regx mixed ?_
  refine GX.q (.ptr 0 2) ?_
  refine GX.q (.ro 4 (d0.Ext.map TExt.c)) ?_
  refine GX.callx (r' := .own 3 4 0 d0.Ext.length) (heap' := [(0, .box (TDomain.c d0)), (1, .box (TPrefix.c p1)), (2, .box [.int .u32 0, .nils, .nils]), (3, .row 4 42 (d0.Ext.map TExt.c))]) (next' := 4) [] [] rfl rfl rfl rfl rfl rfl (clone_okT (c := TExt.c) mixed i44 d0.Ext (by decide) (by omega) (by omega)) (.inl rfl) rfl rfl rfl ?_
  refine GX.m rfl ?_
  refine GX.m rfl ?_
  refine GX.q (.int .i64 (IntKind.i64.wrap (c11a + 1))) ?_
  refine GX.callx (r' := .own 4 4 0 (del_ d0.Ext c11a (IntKind.i64.wrap (c11a + 1))).length) (heap' := [(0, .box (TDomain.c d0)), (1, .box (TPrefix.c p1)), (2, .box [.int .u32 0, .nils, .nils]), (4, .row 4 42 ((del_ d0.Ext c11a (IntKind.i64.wrap (c11a + 1))).map TExt.c))]) (next' := 5) [3] [] rfl rfl rfl rfl rfl rfl (delete_okT (c := TExt.c) (fun _ => rfl) mixed i54 d0.Ext c11a (IntKind.i64.wrap (c11a + 1)) rfl (by omega) (by (have hq := lt_found (by assumption) (by assumption); first | omega | (rw [wrap64_of (by omega) (by omega)]; omega))) (by (have hq := lt_found (by assumption) (by assumption); first | omega | (rw [wrap64_of (by omega) (by omega)]; omega))) (by omega)) (.inl rfl) rfl rfl rfl ?_
  refine GX.q (.ptr 0 2) ?_
  refine GX.step0 (heap' := [(0, .box [.int .u32 d0.Tag, .ro 2 (d0.In.map TPrefix.c), .own 4 4 0 (del_ d0.Ext c11a (IntKind.i64.wrap (c11a + 1))).length]), (1, .box (TPrefix.c p1)), (2, .box [.int .u32 0, .nils, .nils]), (4, .row 4 42 ((del_ d0.Ext c11a (IntKind.i64.wrap (c11a + 1))).map TExt.c))]) (next' := 5) rfl rfl rfl rfl rfl ?_
  refine GX.done ?_
  refine WK.sr mixed ?_
  refine GX.q (.agg [.int .u32 d0.Tag, .ro 2 (d0.In.map TPrefix.c), .own 4 4 0 (del_ d0.Ext c11a (IntKind.i64.wrap (c11a + 1))).length]) ?_
  refine GX.m rfl ?_
  refine GX.step0 (heap' := [(0, .box [.int .u32 d0.Tag, .ro 2 (d0.In.map TPrefix.c), .own 4 4 0 (del_ d0.Ext c11a (IntKind.i64.wrap (c11a + 1))).length]), (1, .box (TPrefix.c p1)), (2, .box [.int .u32 d0.Tag, .ro 2 (d0.In.map TPrefix.c), .own 4 4 0 (del_ d0.Ext c11a (IntKind.i64.wrap (c11a + 1))).length]), (4, .row 4 42 ((del_ d0.Ext c11a (IntKind.i64.wrap (c11a + 1))).map TExt.c))]) (next' := 5) rfl rfl rfl rfl rfl ?_
  refine GX.m rfl ?_
  refine GX.done ?_
  refine WK.ret ?_
  subst hR
  exact RetQ.fr [4] (.inr rfl) rfl rfl (viewGo_cons (viewP_agg (viewGo_cons rfl (viewGo_cons rfl (viewGo_cons (view_rowT rfl rfl) viewGo_nil)))) (viewGo_cons rfl viewGo_nil)) rfl

theorem f55_ok (x0 : List TPrefix) (target1 : TPrefix) (gcmp2 : FuncId) (gcmp2f gcmp2c : List PVal) (hcmp2 : TPrefix → TPrefix → Int) (gcmp2k : PVal.closed.go gcmp2f = true ∧ PVal.closed.go gcmp2c = true) (gcmp2o : ∀ (y0 : TPrefix) (y1 : TPrefix) (R : Int), hcmp2 y0 y1 = R → FnOk Try.prog gcmp2 (gcmp2f ++ [.agg (TPrefix.c y0), .agg (TPrefix.c y1)] ++ gcmp2c) [] 0 (.int .i64 R) [] 0) (R : Int × Bool) (hR : F55_slices_BinarySearchFunc x0 target1 hcmp2 = R) : FnOk Try.prog 55 [.ro 2 (x0.map TPrefix.c), .agg (TPrefix.c target1), .fn gcmp2 gcmp2f gcmp2c] [] 0 (.tup [.int .i64 R.1, .bool R.2]) [] 0 := by
 refine FnOk.wk i55 rfl rfl ?_
 unfold F55_slices_BinarySearchFunc at hR
 change WK _ _ _ [ac55] _ ⟨[(0, .ro 2 (x0.map TPrefix.c)), (1, .agg (TPrefix.c target1)), (2, .fn gcmp2 gcmp2f gcmp2c)], [], 0⟩
 unfold ac55
 refine WK.sr mixed ?_
 refine GX.step (v' := .ptr 0 0) (heap' := [(0, .box (TPrefix.c target1))]) (next' := 1) rfl rfl rfl rfl rfl rfl rfl ?_
 refine GX.m rfl ?_
 refine GX.m rfl ?_
 refine GX.done ?_
 refine WK.sr mixed ?_
 refine GX.m rfl ?_
 refine GX.pure (v' := .int .i64 (x0.length : Int)) rfl rfl rfl rfl (len_map _ _) ?_
 refine GX.m rfl ?_
 refine GX.done ?_
 refine WK.sr mixed ?_
 refine GX.m rfl ?_
 refine GX.m rfl ?_
 refine GX.m rfl ?_
 refine GX.done ?_
 refine WK.seq ?_
 refine WK.len (t := 0) rfl (by simp) (fun hln0_10 => ?_)
 rw [List.length_map] at hln0_10
 generalize hZ_10 : F55_slices_BinarySearchFunc_l1 x0 target1 hcmp2 (((x0.length : Int) - 0).toNat + 1) 0 (x0.length : Int) = Z_10 at hR
 refine WK.forK (fun k s => ∃ (i9 : Int) (j10 : Int), (j10 - i9).toNat < k ∧ 0 ≤ i9 ∧ i9 ≤ j10 ∧ j10 ≤ (x0.length : Int) ∧ F55_slices_BinarySearchFunc_l1 x0 target1 hcmp2 k i9 j10 = Z_10 ∧ s = ⟨[(0, .ro 2 (x0.map TPrefix.c)), (2, .fn gcmp2 gcmp2f gcmp2c), (4, .ptr 0 0), (8, .int .i64 (x0.length : Int)), (9, .int .i64 i9), (10, .int .i64 j10)], [(0, .box (TPrefix.c target1))], 1⟩) (((x0.length : Int) - 0).toNat + 1) ⟨⟨[(0, .ro 2 (x0.map TPrefix.c)), (2, .fn gcmp2 gcmp2f gcmp2c), (4, .ptr 0 0), (8, .int .i64 (x0.length : Int)), (9, .int .i64 0), (10, .int .i64 (x0.length : Int))], [(0, .box (TPrefix.c target1))], 1⟩, Conv.keep [0] [] [0, 2, 4, 8, 9, 10] rfl rfl (viewE_cons rfl rfl (viewE_cons rfl (viewP_fnc gcmp2k) (viewE_cons rfl rfl (viewE_cons rfl rfl (viewE_cons rfl rfl (viewE_cons rfl rfl viewE_nil)))))) rfl rfl, 0, (x0.length : Int), Nat.lt_succ_self _, (by first | assumption | omega | ((try simp only [decide_eq_true_eq, decide_eq_false_iff_not, List.length_set] at *) <;> first | omega | (rw [mid_eq (by omega) (by omega) (by omega)]; omega) | (rw [mid_eq (by omega) (by omega) (by omega), wrap64_of (by omega) (by omega)]; omega) | (rw [wrap64_of (by omega) (by omega)]; omega))), (by first | assumption | omega | ((try simp only [decide_eq_true_eq, decide_eq_false_iff_not, List.length_set] at *) <;> first | omega | (rw [mid_eq (by omega) (by omega) (by omega)]; omega) | (rw [mid_eq (by omega) (by omega) (by omega), wrap64_of (by omega) (by omega)]; omega) | (rw [wrap64_of (by omega) (by omega)]; omega))), (by first | assumption | omega | ((try simp only [decide_eq_true_eq, decide_eq_false_iff_not, List.length_set] at *) <;> first | omega | (rw [mid_eq (by omega) (by omega) (by omega)]; omega) | (rw [mid_eq (by omega) (by omega) (by omega), wrap64_of (by omega) (by omega)]; omega) | (rw [wrap64_of (by omega) (by omega)]; omega))), hZ_10, rfl⟩ ?_
 rintro k10 _ ⟨i9, j10, hfu10, hinv10_w0, hinv10_w1, hinv10_w2, hL_10, rfl⟩ again_10 out_10 Q_10 hagain_10 hout_10 hQ_10
 obtain ⟨f10, rfl⟩ : ∃ f, k10 = f + 1 := ⟨k10 - 1, by omega⟩
 unfold F55_slices_BinarySearchFunc_l1 at hL_10; try dsimp only at hL_10
 refine WK.seq ?_
 refine WK.sr mixed ?_
 refine GX.m rfl ?_
 refine GX.m rfl ?_
 refine GX.q (.bool (decide (i9 < j10))) ?_
 refine GX.done ?_
 rcases bool_two (decide (i9 < j10)) with hb11 | hb11
 ·rw [hb11]; try simp only [hb11, cond_true, cond_false, Bool.true_and, Bool.false_and, Bool.true_or, Bool.false_or, Bool.not_true, Bool.not_false] at hL_10
  refine WK.condF rfl ?_
  refine WK.exit ?_
  refine QF.exit (hout_10 _ ?_)
  subst hL_10
  try dsimp only [cond_true, cond_false] at hR
  refine WK.seq ?_
  refine WK.drawn mixed ?_
  refine RD.m rfl ?_
  refine RD.m rfl ?_
  refine RD.m rfl ?_
  refine RD.q (.bool (decide (i9 < (x0.length : Int)))) ?_
  refine RD.m rfl ?_
  rcases bool_two (decide (i9 < (x0.length : Int))) with hb12 | hb12
  ·rw [hb12]; try simp only [hb12, cond_true, cond_false, Bool.true_and, Bool.false_and, Bool.true_or, Bool.false_or, Bool.not_true, Bool.not_false] at hR
   refine RD.skip rfl rfl ?_
   refine RD.skip rfl rfl ?_
   refine RD.skip rfl rfl ?_
   refine RD.skip rfl rfl ?_
   refine RD.skip rfl rfl ?_
   refine RD.skip rfl rfl ?_
   refine RD.skip rfl rfl ?_
   refine RD.skip rfl rfl ?_
   refine RD.q (.bool false) ?_
   refine RD.m rfl ?_
   refine RD.m rfl ?_
   refine RD.done rfl ?_
   refine WK.ret ?_
   subst hR
   exact RetQ.fr [] (.inr rfl) rfl rfl rfl rfl
  ·rw [hb12]; try simp only [hb12, cond_true, cond_false, Bool.true_and, Bool.false_and, Bool.true_or, Bool.false_or, Bool.not_true, Bool.not_false] at hR
   refine RD.m rfl ?_
   refine RD.m rfl ?_
   refine RD.m rfl ?_
   refine RD.idxT (c := TPrefix.c) (x := (x0.getD i9.toNat default)) rfl rfl rfl (by omega) (getD_at (by ((try simp only [decide_eq_true_eq, decide_eq_false_iff_not, Bool.not_eq_true, Bool.not_eq_false] at *); first | omega | (rw [wrap64_of (by omega) (by omega)]; omega) | (unfold min_ max_; (repeat' split) <;> first | omega | (rw [wrap64_of (by omega) (by omega)]; omega))))) ?_
   refine RD.q (.agg [.int .u32 ((x0.getD i9.toNat default).A), .int .i64 ((x0.getD i9.toNat default).N)]) ?_
   refine RD.q (.agg (TPrefix.c target1)) ?_
   generalize hc46 : hcmp2 (x0.getD i9.toNat default) target1 = c46 at hR
   try dsimp only at hR
   refine RD.callvp (r := .int .i64 c46) rfl rfl rfl (gcmp2o (x0.getD i9.toNat default) target1 _ hc46) (closed3 gcmp2k.1 rfl gcmp2k.2) rfl ?_
   refine RD.q (.bool (decide (c46 = 0))) ?_
   refine RD.q (.bool (decide (c46 = 0))) ?_
   refine RD.m rfl ?_
   refine RD.m rfl ?_
   refine RD.done rfl ?_
   refine WK.ret ?_
   subst hR
   exact RetQ.fr [] (.inr rfl) rfl rfl rfl rfl
 ·rw [hb11]; try simp only [hb11, cond_true, cond_false, Bool.true_and, Bool.false_and, Bool.true_or, Bool.false_or, Bool.not_true, Bool.not_false] at hL_10
  refine WK.condT rfl ?_
  refine WK.skip ?_
  refine WK.blockK (fun _ hK13 => ?_)
  refine WK.sr mixed ?_
  refine GX.m rfl ?_
  refine GX.m rfl ?_
  refine GX.q (.int .i64 (IntKind.i64.wrap (i9 + j10))) ?_
  refine GX.q (.int .u64 (IntKind.u64.wrap (IntKind.i64.wrap (i9 + j10)))) ?_
  refine GX.q (.int .u64 (Int.fdiv (IntKind.u64.wrap (IntKind.i64.wrap (i9 + j10))) (2 ^ 1))) ?_
  refine GX.q (.int .i64 (IntKind.i64.wrap (Int.fdiv (IntKind.u64.wrap (IntKind.i64.wrap (i9 + j10))) (2 ^ 1)))) ?_
  refine GX.m rfl ?_
  refine GX.done ?_
  refine WK.seq ?_
  refine WK.drawn mixed ?_
  refine RD.m rfl ?_
  refine RD.m rfl ?_
  refine RD.m rfl ?_
  refine RD.idxT (c := TPrefix.c) (x := (x0.getD (IntKind.i64.wrap (Int.fdiv (IntKind.u64.wrap (IntKind.i64.wrap (i9 + j10))) (2 ^ 1))).toNat default)) rfl rfl rfl (by ((try simp only [decide_eq_true_eq] at *); rw [mid_eq (by omega) (by omega) (by omega)]; omega)) (getD_at (by ((try simp only [decide_eq_true_eq] at *); rw [mid_eq (by omega) (by omega) (by omega)]; omega))) ?_
  refine RD.q (.agg [.int .u32 ((x0.getD (IntKind.i64.wrap (Int.fdiv (IntKind.u64.wrap (IntKind.i64.wrap (i9 + j10))) (2 ^ 1))).toNat default).A), .int .i64 ((x0.getD (IntKind.i64.wrap (Int.fdiv (IntKind.u64.wrap (IntKind.i64.wrap (i9 + j10))) (2 ^ 1))).toNat default).N)]) ?_
  refine RD.q (.agg (TPrefix.c target1)) ?_
  generalize hc30 : hcmp2 (x0.getD (IntKind.i64.wrap (Int.fdiv (IntKind.u64.wrap (IntKind.i64.wrap (i9 + j10))) (2 ^ 1))).toNat default) target1 = c30 at hL_10
  try dsimp only at hL_10
  refine RD.callvp (r := .int .i64 c30) rfl rfl rfl (gcmp2o (x0.getD (IntKind.i64.wrap (Int.fdiv (IntKind.u64.wrap (IntKind.i64.wrap (i9 + j10))) (2 ^ 1))).toNat default) target1 _ hc30) (closed3 gcmp2k.1 rfl gcmp2k.2) rfl ?_
  refine RD.q (.bool (decide (c30 < 0))) ?_
  refine RD.done rfl ?_
  rcases bool_two (decide (c30 < 0)) with hb14 | hb14
  ·rw [hb14]; try simp only [hb14, cond_true, cond_false, Bool.true_and, Bool.false_and, Bool.true_or, Bool.false_or, Bool.not_true, Bool.not_false] at hL_10
   refine WK.condF rfl ?_
   refine WK.regx mixed ?_
   refine GX.m rfl ?_
   refine GX.m rfl ?_
   refine GX.done ?_
   refine WK.nil (QF.normal (hK13 _ ?_))
   refine WK.nil (QF.normal ?_)
   exact hagain_10 _ f10 ⟨[(0, .ro 2 (x0.map TPrefix.c)), (2, .fn gcmp2 gcmp2f gcmp2c), (4, .ptr 0 0), (8, .int .i64 (x0.length : Int)), (9, .int .i64 i9), (10, .int .i64 (IntKind.i64.wrap (Int.fdiv (IntKind.u64.wrap (IntKind.i64.wrap (i9 + j10))) (2 ^ 1))))], [(0, .box (TPrefix.c target1))], 1⟩ (Nat.lt_succ_self _) (Conv.keep [0] [] [0, 2, 4, 8, 9, 10] rfl rfl (viewE_cons rfl rfl (viewE_cons rfl (viewP_fnc gcmp2k) (viewE_cons rfl rfl (viewE_cons rfl rfl (viewE_cons rfl rfl (viewE_cons rfl rfl viewE_nil)))))) rfl rfl) ⟨i9, (IntKind.i64.wrap (Int.fdiv (IntKind.u64.wrap (IntKind.i64.wrap (i9 + j10))) (2 ^ 1))), (by first | assumption | omega | ((try simp only [decide_eq_true_eq, decide_eq_false_iff_not, List.length_set] at *) <;> first | omega | (rw [mid_eq (by omega) (by omega) (by omega)]; omega) | (rw [mid_eq (by omega) (by omega) (by omega), wrap64_of (by omega) (by omega)]; omega) | (rw [wrap64_of (by omega) (by omega)]; omega))), (by first | assumption | omega | ((try simp only [decide_eq_true_eq, decide_eq_false_iff_not, List.length_set] at *) <;> first | omega | (rw [mid_eq (by omega) (by omega) (by omega)]; omega) | (rw [mid_eq (by omega) (by omega) (by omega), wrap64_of (by omega) (by omega)]; omega) | (rw [wrap64_of (by omega) (by omega)]; omega))), (by first | assumption | omega | ((try simp only [decide_eq_true_eq, decide_eq_false_iff_not, List.length_set] at *) <;> first | omega | (rw [mid_eq (by omega) (by omega) (by omega)]; omega) | (rw [mid_eq (by omega) (by omega) (by omega), wrap64_of (by omega) (by omega)]; omega) | (rw [wrap64_of (by omega) (by omega)]; omega))), (by first | assumption | omega | ((try simp only [decide_eq_true_eq, decide_eq_false_iff_not, List.length_set] at *) <;> first | omega | (rw [mid_eq (by omega) (by omega) (by omega)]; omega) | (rw [mid_eq (by omega) (by omega) (by omega), wrap64_of (by omega) (by omega)]; omega) | (rw [wrap64_of (by omega) (by omega)]; omega))), hL_10, rfl⟩
  ·rw [hb14]; try simp only [hb14, cond_true, cond_false, Bool.true_and, Bool.false_and, Bool.true_or, Bool.false_or, Bool.not_true, Bool.not_false] at hL_10
   refine WK.condT rfl ?_
   refine WK.regx mixed ?_
   refine GX.m rfl ?_
   refine GX.q (.int .i64 (IntKind.i64.wrap ((IntKind.i64.wrap (Int.fdiv (IntKind.u64.wrap (IntKind.i64.wrap (i9 + j10))) (2 ^ 1))) + 1))) ?_
   refine GX.m rfl ?_
   refine GX.done ?_
   refine WK.nil (QF.normal (hK13 _ ?_))
   refine WK.nil (QF.normal ?_)
   exact hagain_10 _ f10 ⟨[(0, .ro 2 (x0.map TPrefix.c)), (2, .fn gcmp2 gcmp2f gcmp2c), (4, .ptr 0 0), (8, .int .i64 (x0.length : Int)), (9, .int .i64 (IntKind.i64.wrap ((IntKind.i64.wrap (Int.fdiv (IntKind.u64.wrap (IntKind.i64.wrap (i9 + j10))) (2 ^ 1))) + 1))), (10, .int .i64 j10)], [(0, .box (TPrefix.c target1))], 1⟩ (Nat.lt_succ_self _) (Conv.keep [0] [] [0, 2, 4, 8, 9, 10] rfl rfl (viewE_cons rfl rfl (viewE_cons rfl (viewP_fnc gcmp2k) (viewE_cons rfl rfl (viewE_cons rfl rfl (viewE_cons rfl rfl (viewE_cons rfl rfl viewE_nil)))))) rfl rfl) ⟨(IntKind.i64.wrap ((IntKind.i64.wrap (Int.fdiv (IntKind.u64.wrap (IntKind.i64.wrap (i9 + j10))) (2 ^ 1))) + 1)), j10, (by first | assumption | omega | ((try simp only [decide_eq_true_eq, decide_eq_false_iff_not, List.length_set] at *) <;> first | omega | (rw [mid_eq (by omega) (by omega) (by omega)]; omega) | (rw [mid_eq (by omega) (by omega) (by omega), wrap64_of (by omega) (by omega)]; omega) | (rw [wrap64_of (by omega) (by omega)]; omega))), (by first | assumption | omega | ((try simp only [decide_eq_true_eq, decide_eq_false_iff_not, List.length_set] at *) <;> first | omega | (rw [mid_eq (by omega) (by omega) (by omega)]; omega) | (rw [mid_eq (by omega) (by omega) (by omega), wrap64_of (by omega) (by omega)]; omega) | (rw [wrap64_of (by omega) (by omega)]; omega))), (by first | assumption | omega | ((try simp only [decide_eq_true_eq, decide_eq_false_iff_not, List.length_set] at *) <;> first | omega | (rw [mid_eq (by omega) (by omega) (by omega)]; omega) | (rw [mid_eq (by omega) (by omega) (by omega), wrap64_of (by omega) (by omega)]; omega) | (rw [wrap64_of (by omega) (by omega)]; omega))), (by first | assumption | omega | ((try simp only [decide_eq_true_eq, decide_eq_false_iff_not, List.length_set] at *) <;> first | omega | (rw [mid_eq (by omega) (by omega) (by omega)]; omega) | (rw [mid_eq (by omega) (by omega) (by omega), wrap64_of (by omega) (by omega)]; omega) | (rw [wrap64_of (by omega) (by omega)]; omega))), hL_10, rfl⟩

theorem f33_ok (d0 : TDomain) (p1 : TPrefix) (R : Int × Bool) (hR : F33_redist_Domain_own d0 p1 = R) : FnOk Try.prog 33 [.agg (TDomain.c d0), .agg (TPrefix.c p1)] [] 0 (.tup [.int .i64 R.1, .bool R.2]) [] 0 := by
 refine FnOk.wk i33 rfl rfl ?_
 unfold F33_redist_Domain_own at hR
 change WK _ _ _ [ac33] _ ⟨[(0, .agg (TDomain.c d0)), (1, .agg (TPrefix.c p1))], [], 0⟩
 unfold ac33
 refine WK.sr mixed ?_
 refine GX.step (v' := .ptr 0 0) (heap' := [(0, .box (TDomain.c d0))]) (next' := 1) rfl rfl rfl rfl rfl rfl rfl ?_
 refine GX.step (v' := .ptr 1 0) (heap' := [(0, .box (TDomain.c d0)), (1, .box (TPrefix.c p1))]) (next' := 2) rfl rfl rfl rfl rfl rfl rfl ?_
 refine GX.m rfl ?_
 refine GX.m rfl ?_
 refine GX.done ?_
 refine WK.sr mixed ?_
 refine GX.q (.ptr 0 1) ?_
 refine GX.q (.ro 2 (d0.In.map TPrefix.c)) ?_
 refine GX.q (.agg (TPrefix.c p1)) ?_
 generalize hc9 : F55_slices_BinarySearchFunc d0.In p1 (fun y0 y1 => F56_redist_order y0 y1) = c9 at hR
 obtain ⟨c9a, c9b⟩ := c9; try dsimp only at hR
 refine GX.callp (r := .tup [.int .i64 c9a, .bool c9b]) rfl rfl rfl (f55_ok d0.In p1 56 [] [] (fun y0 y1 => F56_redist_order y0 y1) ⟨rfl, rfl⟩ (fun y0 y1 _ hr => f56_ok y0 y1 _ hr) _ hc9) rfl rfl ?_
 refine GX.q (.int .i64 c9a) ?_
 refine GX.q (.bool c9b) ?_
 refine GX.m rfl ?_
 refine GX.m rfl ?_
 refine GX.done ?_
 refine WK.ret ?_
 subst hR
 exact RetQ.fr [] (.inr rfl) rfl rfl rfl rfl

theorem f36_ok (w0 : TWorld) (i1 : Int) (d2 : TDomain) (hp0 : w0.D.length ≤ 1000) (hp1 : 0 ≤ i1) (hp2 : i1 < (w0.D.length : Int)) (R : TWorld) (hR : F36_redist_World_with w0 i1 d2 = R) : FnOk Try.prog 36 [.agg (TWorld.c w0), .int .i64 i1, .agg (TDomain.c d2)] [] 0 (.agg (TWorld.c R)) [] 0 := by
 refine FnOk.wk i36 rfl rfl ?_
 unfold F36_redist_World_with at hR
 change WK _ _ _ [ac36] _ ⟨[(0, .agg (TWorld.c w0)), (1, .int .i64 i1), (2, .agg (TDomain.c d2))], [], 0⟩
 unfold ac36
 refine WK.sr mixed ?_
 refine GX.step (v' := .ptr 0 0) (heap' := [(0, .box (TWorld.c w0))]) (next' := 1) rfl rfl rfl rfl rfl rfl rfl ?_
 refine GX.step (v' := .ptr 1 0) (heap' := [(0, .box (TWorld.c w0)), (1, .box (TDomain.c d2))]) (next' := 2) rfl rfl rfl rfl rfl rfl rfl ?_
 refine GX.step (v' := .ptr 2 0) (heap' := [(0, .box (TWorld.c w0)), (1, .box (TDomain.c d2)), (2, .box [.nils])]) (next' := 3) rfl rfl rfl rfl rfl rfl rfl ?_
 refine GX.done ?_
 refine WK.sr mixed ?_
 refine GX.q (.ptr 0 0) ?_
 refine GX.q (.ro 3 (w0.D.map TDomain.c)) ?_
 refine GX.callx (r' := .own 3 3 0 w0.D.length) (heap' := [(0, .box (TWorld.c w0)), (1, .box (TDomain.c d2)), (2, .box [.nils]), (3, .row 3 40 (w0.D.map TDomain.c))]) (next' := 4) [] [] rfl rfl rfl rfl rfl rfl (clone_okT (c := TDomain.c) mixed i59 w0.D (by decide) (by omega) (by omega)) (.inl rfl) rfl rfl rfl ?_
 refine GX.q (.ptr 0 0) ?_
 refine GX.step0 (heap' := [(0, .box [.own 3 3 0 w0.D.length]), (1, .box (TDomain.c d2)), (2, .box [.nils]), (3, .row 3 40 (w0.D.map TDomain.c))]) (next' := 4) rfl rfl rfl rfl rfl ?_
 refine GX.done ?_
 refine WK.sr mixed ?_
 refine GX.q (.ptr 0 0) ?_
 refine GX.q (.own 3 3 0 w0.D.length) ?_
 refine GX.m rfl ?_
 refine GX.q (.agg (TDomain.c d2)) ?_
 refine GX.pure (v' := .eptr 3 3 i1.toNat 0) rfl rfl rfl (core_idxoT (c := TDomain.c) (L := w0.D) (j := i1.toNat) rfl (by omega) (by omega) (by exact Nat.le_refl _)) rfl ?_
 refine GX.step0 (heap' := [(0, .box [.own 3 3 0 w0.D.length]), (1, .box (TDomain.c d2)), (2, .box [.nils]), (3, .row 3 40 ((w0.D.set i1.toNat d2).map TDomain.c))]) (next' := 4) rfl rfl (core_stoT (c := TDomain.c) (L := w0.D) (x := (w0.D.getD i1.toNat default)) (x' := d2) rfl (getD_at (by omega)) rfl rfl rfl rfl rfl) rfl rfl ?_
 refine GX.done ?_
 refine WK.sr mixed ?_
 refine GX.q (.agg [.own 3 3 0 w0.D.length]) ?_
 refine GX.step0 (heap' := [(0, .box [.own 3 3 0 w0.D.length]), (1, .box (TDomain.c d2)), (2, .box [.own 3 3 0 w0.D.length]), (3, .row 3 40 ((w0.D.set i1.toNat d2).map TDomain.c))]) (next' := 4) rfl rfl rfl rfl rfl ?_
 refine GX.done ?_
 refine WK.ret ?_
 subst hR
 exact RetQ.fr [3] (.inr rfl) rfl rfl (viewGo_cons (viewP_agg (viewGo_cons (view_rowM rfl rfl (by simp)) viewGo_nil)) viewGo_nil) rfl

theorem f15_ok (w0 : TWorld) (d1 : Int) (p2 : TPrefix) (hp0 : InvW w0) (R : TWorld × Int) (hR : F15_redist_Own w0 d1 p2 = R) : FnOk Try.prog 15 [.agg (TWorld.c w0), .int .i64 d1, .agg (TPrefix.c p2)] [] 0 (.tup [.agg (TWorld.c R.1), .int .i64 R.2]) [] 0 := by
 refine FnOk.wk i15 rfl rfl ?_
 unfold F15_redist_Own at hR
 change WK _ _ _ [ac15] _ ⟨[(0, .agg (TWorld.c w0)), (1, .int .i64 d1), (2, .agg (TPrefix.c p2))], [], 0⟩
 unfold ac15
 refine WK.sr mixed ?_
 refine GX.step (v' := .ptr 0 0) (heap' := [(0, .box (TWorld.c w0))]) (next' := 1) rfl rfl rfl rfl rfl rfl rfl ?_
 refine GX.step (v' := .ptr 1 0) (heap' := [(0, .box (TWorld.c w0)), (1, .box (TPrefix.c p2))]) (next' := 2) rfl rfl rfl rfl rfl rfl rfl ?_
 refine GX.step (v' := .ptr 2 0) (heap' := [(0, .box (TWorld.c w0)), (1, .box (TPrefix.c p2)), (2, .box [.nils])]) (next' := 3) rfl rfl rfl rfl rfl rfl rfl ?_
 refine GX.m rfl ?_
 refine GX.done ?_
 refine WK.seq ?_
 refine WK.sr mixed ?_
 refine GX.q (.agg (TWorld.c w0)) ?_
 refine GX.m rfl ?_
 generalize hc14 : F30_redist_World_is w0 d1 = c14 at hR
 have hpo0_c14 := post_is w0 d1; rw [hc14] at hpo0_c14
 try dsimp only at hR
 refine GX.callp (r := .bool c14) rfl rfl rfl (f30_ok w0 d1 _ hc14) rfl rfl ?_
 refine GX.q (.bool (!c14)) ?_
 refine GX.m rfl ?_
 rcases bool_two (c14) with hb1 | hb1
 ·rw [hb1]; try simp only [hb1, cond_true, cond_false, Bool.true_and, Bool.false_and, Bool.true_or, Bool.false_or, Bool.not_true, Bool.not_false] at hR
  refine GX.skip rfl rfl ?_
  refine GX.skip rfl rfl ?_
  refine GX.skip rfl rfl ?_
  refine GX.q (.bool true) ?_
  refine GX.done ?_
  refine WK.condT rfl ?_
  refine WK.sr mixed ?_
  refine GX.q (.agg (TWorld.c w0)) ?_
  refine GX.step0 (heap' := [(0, .box (TWorld.c w0)), (1, .box (TPrefix.c p2)), (2, .box (TWorld.c w0))]) (next' := 3) rfl rfl rfl rfl rfl ?_
  refine GX.m rfl ?_
  refine GX.done ?_
  refine WK.ret ?_
  subst hR
  exact RetQ.fr [] (.inr rfl) rfl rfl rfl rfl
 ·rw [hb1]; try simp only [hb1, cond_true, cond_false, Bool.true_and, Bool.false_and, Bool.true_or, Bool.false_or, Bool.not_true, Bool.not_false] at hR
  try have hq_hpo0_c14 := hpo0_c14 hb1
  refine GX.q (.agg (TPrefix.c p2)) ?_
  generalize hc18 : F31_addr_May p2 = c18 at hR
  try dsimp only at hR
  refine GX.callp (r := .bool c18) rfl rfl rfl (f31_ok p2 _ hc18) rfl rfl ?_
  refine GX.q (.bool (!c18)) ?_
  refine GX.q (.bool (!c18)) ?_
  refine GX.done ?_
  rcases bool_two (c18) with hb2 | hb2
  ·rw [hb2]; try simp only [hb2, cond_true, cond_false, Bool.true_and, Bool.false_and, Bool.true_or, Bool.false_or, Bool.not_true, Bool.not_false] at hR
   refine WK.condT rfl ?_
   refine WK.sr mixed ?_
   refine GX.q (.agg (TWorld.c w0)) ?_
   refine GX.step0 (heap' := [(0, .box (TWorld.c w0)), (1, .box (TPrefix.c p2)), (2, .box (TWorld.c w0))]) (next' := 3) rfl rfl rfl rfl rfl ?_
   refine GX.m rfl ?_
   refine GX.done ?_
   refine WK.ret ?_
   subst hR
   exact RetQ.fr [] (.inr rfl) rfl rfl rfl rfl
  ·rw [hb2]; try simp only [hb2, cond_true, cond_false, Bool.true_and, Bool.false_and, Bool.true_or, Bool.false_or, Bool.not_true, Bool.not_false] at hR
   refine WK.condF rfl ?_
   refine WK.skip ?_
   refine WK.seq ?_
   refine WK.drawn mixed ?_
   refine RD.q (.ptr 0 0) ?_
   refine RD.q (.ro 3 (w0.D.map TDomain.c)) ?_
   refine RD.m rfl ?_
   refine RD.idxT (c := TDomain.c) (x := (w0.D.getD d1.toNat default)) rfl rfl rfl (by omega) (getD_at (by omega)) ?_
   refine RD.q (.agg [.int .u32 ((w0.D.getD d1.toNat default).Tag), .ro 2 (((w0.D.getD d1.toNat default).In).map TPrefix.c), .ro 4 (((w0.D.getD d1.toNat default).Ext).map TExt.c)]) ?_
   refine RD.q (.agg (TPrefix.c p2)) ?_
   generalize hc29 : F32_redist_Domain_without (w0.D.getD d1.toNat default) p2 = c29 at hR
   have hpo0_c29 := post_wo (w0.D.getD d1.toNat default) p2 (by exact InvW.get (by assumption) _); rw [hc29] at hpo0_c29
   have hpo1_c29 := post_woI (w0.D.getD d1.toNat default) p2 (by exact InvW.get (by assumption) _); rw [hc29] at hpo1_c29
   obtain ⟨c29a, c29b⟩ := c29; try dsimp only at hR; try dsimp only at hpo0_c29; try dsimp only at hpo1_c29
   refine RD.callp (r := .tup [.agg [.int .u32 c29a.Tag, .ro 2 (c29a.In.map TPrefix.c), .ro 4 (c29a.Ext.map TExt.c)], .bool c29b]) rfl rfl rfl (f32_ok (w0.D.getD d1.toNat default) p2 (by exact InvW.get (by assumption) _) _ hc29) rfl rfl ?_
   refine RD.m rfl ?_
   refine RD.q (.agg [.int .u32 c29a.Tag, .ro 2 (c29a.In.map TPrefix.c), .ro 4 (c29a.Ext.map TExt.c)]) ?_
   refine RD.q (.bool c29b) ?_
   refine RD.step (v' := .ptr 3 0) (heap' := [(0, .box (TWorld.c w0)), (1, .box (TPrefix.c p2)), (2, .box [.nils]), (3, .box [.int .u32 0, .nils, .nils])]) (next' := 4) rfl rfl rfl rfl rfl rfl rfl ?_
   refine RD.step0 (heap' := [(0, .box (TWorld.c w0)), (1, .box (TPrefix.c p2)), (2, .box [.nils]), (3, .box (TDomain.c c29a))]) (next' := 4) rfl rfl rfl rfl rfl ?_
   refine RD.m rfl ?_
   refine RD.done rfl ?_
   refine WK.sr mixed ?_
   refine GX.q (.agg (TDomain.c c29a)) ?_
   refine GX.q (.agg (TPrefix.c p2)) ?_
   generalize hc35 : F33_redist_Domain_own c29a p2 = c35 at hR
   have hpo0_c35 := post_own c29a p2 (by omega); rw [hc35] at hpo0_c35
   obtain ⟨c35a, c35b⟩ := c35; try dsimp only at hR; try dsimp only at hpo0_c35
   refine GX.callp (r := .tup [.int .i64 c35a, .bool c35b]) rfl rfl rfl (f33_ok c29a p2 _ hc35) rfl rfl ?_
   refine GX.m rfl ?_
   refine GX.q (.int .i64 c35a) ?_
   refine GX.q (.bool c35b) ?_
   refine GX.m rfl ?_
   refine GX.m rfl ?_
   refine GX.done ?_
   refine WK.seq ?_
   refine WK.blockK (fun _ hK3 => ?_)
   refine WK.sr mixed ?_
   refine GX.m rfl ?_
   refine GX.m rfl ?_
   refine GX.done ?_
   rcases bool_two (c35b) with hb4 | hb4
   ·rw [hb4]; try simp only [hb4, cond_true, cond_false, Bool.true_and, Bool.false_and, Bool.true_or, Bool.false_or, Bool.not_true, Bool.not_false] at hR
    refine WK.condF rfl ?_
    refine WK.sr mixed ?_
    refine GX.q (.ptr 3 1) ?_
    refine GX.q (.ro 2 (c29a.In.map TPrefix.c)) ?_
    refine GX.pure (v' := .int .i64 (c29a.In.length : Int)) rfl rfl rfl rfl (len_map _ _) ?_
    refine GX.q (.bool (decide (50 ≤ (c29a.In.length : Int)))) ?_
    refine GX.m rfl ?_
    refine GX.done ?_
    rcases bool_two (decide (50 ≤ (c29a.In.length : Int))) with hb5 | hb5
    ·rw [hb5]; try simp only [hb5, cond_true, cond_false, Bool.true_and, Bool.false_and, Bool.true_or, Bool.false_or, Bool.not_true, Bool.not_false] at hR
     refine WK.condF rfl ?_
     refine WK.skip ?_
     refine WK.nil (QF.normal (hK3 _ ?_))
     refine WK.seq ?_
     refine WK.drawn mixed ?_
     refine RD.q (.ptr 3 1) ?_
     refine RD.q (.ro 2 (c29a.In.map TPrefix.c)) ?_
     refine RD.callx (r' := .own 4 2 0 c29a.In.length) (heap' := [(0, .box (TWorld.c w0)), (1, .box (TPrefix.c p2)), (2, .box [.nils]), (3, .box (TDomain.c c29a)), (4, .row 2 29 (c29a.In.map TPrefix.c))]) (next' := 5) [] [] rfl rfl rfl rfl rfl rfl (clone_okT (c := TPrefix.c) mixed i35 c29a.In (by decide) (by omega) (by omega)) (.inl rfl) rfl rfl rfl ?_
     refine RD.m rfl ?_
     refine RD.q (.agg (TPrefix.c p2)) ?_
     refine RD.step (v' := .own 5 2 0 (([p2] : List TPrefix)).length) (heap' := [(0, .box (TWorld.c w0)), (1, .box (TPrefix.c p2)), (2, .box [.nils]), (3, .box (TDomain.c c29a)), (4, .row 2 29 (c29a.In.map TPrefix.c)), (5, .row 2 29 (([p2] : List TPrefix).map TPrefix.c))]) (next' := 6) rfl rfl rfl rfl rfl rfl rfl ?_
     refine RD.callx (r' := .own 6 2 0 (ins_ c29a.In c35a ([p2] : List TPrefix)).length) (heap' := [(0, .box (TWorld.c w0)), (1, .box (TPrefix.c p2)), (2, .box [.nils]), (3, .box (TDomain.c c29a)), (6, .row 2 29 ((ins_ c29a.In c35a ([p2] : List TPrefix)).map TPrefix.c))]) (next' := 7) [4, 5] [] rfl rfl rfl rfl rfl rfl (insert_okT (c := TPrefix.c) (fun _ => rfl) mixed i34 ov34 c29a.In ([p2] : List TPrefix) c35a rfl rfl (by omega) (by omega) (by (simp; done)) (by ((try simp only [List.length_append, List.length_cons, List.length_nil, List.length_map, decide_eq_true_eq, decide_eq_false_iff_not] at *) <;> omega)) (by ((try simp only [List.length_append, List.length_cons, List.length_nil, List.length_map, decide_eq_true_eq, decide_eq_false_iff_not] at *) <;> omega))) (.inl rfl) rfl rfl rfl ?_
     refine RD.q (.ptr 3 1) ?_
     refine RD.step0 (heap' := [(0, .box (TWorld.c w0)), (1, .box (TPrefix.c p2)), (2, .box [.nils]), (3, .box [.int .u32 c29a.Tag, .own 6 2 0 (ins_ c29a.In c35a ([p2] : List TPrefix)).length, .ro 4 (c29a.Ext.map TExt.c)]), (6, .row 2 29 ((ins_ c29a.In c35a ([p2] : List TPrefix)).map TPrefix.c))]) (next' := 7) rfl rfl rfl rfl rfl ?_
     refine RD.done rfl ?_
     refine WK.seq ?_
     refine WK.conv (st' := ⟨[(1, .int .i64 d1), (3, .ptr 0 0), (6, .ptr 1 0), (8, .ptr 2 0)], [(0, .box (TWorld.c w0)), (1, .box [.nils]), (2, .box [.int .u32 c29a.Tag, .ro 2 ((ins_ c29a.In c35a ([p2] : List TPrefix)).map TPrefix.c), .ro 4 (c29a.Ext.map TExt.c)])], 3⟩) (Conv.keep [0, 2, 3] [6] [1, 3, 6, 8] rfl rfl (viewE_cons rfl rfl (viewE_cons rfl rfl (viewE_cons rfl rfl (viewE_cons rfl rfl viewE_nil)))) (subH_cons rfl rfl (subH_cons rfl rfl (subH_cons rfl (viewO_box (viewGo_cons rfl (viewGo_cons (view_rowT rfl rfl) (viewGo_cons rfl viewGo_nil)))) subH_nil))) rfl) ?_ (by simp)
     refine WK.regx mixed ?_
     refine GX.q (.agg (TWorld.c w0)) ?_
     refine GX.m rfl ?_
     refine GX.q (.agg [.int .u32 c29a.Tag, .ro 2 ((ins_ c29a.In c35a ([p2] : List TPrefix)).map TPrefix.c), .ro 4 (c29a.Ext.map TExt.c)]) ?_
     generalize hc58 : F36_redist_World_with w0 d1 (⟨c29a.Tag, (ins_ c29a.In c35a ([p2] : List TPrefix)), c29a.Ext⟩ : TDomain) = c58 at hR
     try dsimp only at hR
     refine GX.callp (r := .agg [.ro 3 (c58.D.map TDomain.c)]) rfl rfl rfl (f36_ok w0 d1 (⟨c29a.Tag, (ins_ c29a.In c35a ([p2] : List TPrefix)), c29a.Ext⟩ : TDomain) (by exact InvW.le1000 (by assumption)) (by omega) (by omega) _ hc58) rfl rfl ?_
     refine GX.step0 (heap' := [(0, .box (TWorld.c w0)), (1, .box (TWorld.c c58)), (2, .box [.int .u32 c29a.Tag, .ro 2 ((ins_ c29a.In c35a ([p2] : List TPrefix)).map TPrefix.c), .ro 4 (c29a.Ext.map TExt.c)])]) (next' := 3) rfl rfl rfl rfl rfl ?_
     refine GX.m rfl ?_
     refine GX.done ?_
     refine WK.ret ?_
     subst hR
     exact RetQ.fr [] (.inr rfl) rfl rfl rfl rfl
    ·rw [hb5]; try simp only [hb5, cond_true, cond_false, Bool.true_and, Bool.false_and, Bool.true_or, Bool.false_or, Bool.not_true, Bool.not_false] at hR
     refine WK.condT rfl ?_
     refine WK.sr mixed ?_
     refine GX.q (.agg (TWorld.c w0)) ?_
     refine GX.step0 (heap' := [(0, .box (TWorld.c w0)), (1, .box (TPrefix.c p2)), (2, .box (TWorld.c w0)), (3, .box (TDomain.c c29a))]) (next' := 4) rfl rfl rfl rfl rfl ?_
     refine GX.m rfl ?_
     refine GX.done ?_
     refine WK.ret ?_
     refine QF.ret ?_
     subst hR
     exact RetQ.fr [] (.inr rfl) rfl rfl rfl rfl
   ·rw [hb4]; try simp only [hb4, cond_true, cond_false, Bool.true_and, Bool.false_and, Bool.true_or, Bool.false_or, Bool.not_true, Bool.not_false] at hR
    refine WK.condT rfl ?_
    refine WK.sr mixed ?_
    refine GX.q (.agg (TWorld.c w0)) ?_
    refine GX.step0 (heap' := [(0, .box (TWorld.c w0)), (1, .box (TPrefix.c p2)), (2, .box (TWorld.c w0)), (3, .box (TDomain.c c29a))]) (next' := 4) rfl rfl rfl rfl rfl ?_
    refine GX.m rfl ?_
    refine GX.done ?_
    refine WK.ret ?_
    refine QF.ret ?_
    subst hR
    exact RetQ.fr [] (.inr rfl) rfl rfl rfl rfl

theorem f21_ok (w0 : TWorld) (d1 : Int) (p2 : TPrefix) (hp0 : InvW w0) (R : TExt × Bool) (hR : F21_redist_Has w0 d1 p2 = R) : FnOk Try.prog 21 [.agg (TWorld.c w0), .int .i64 d1, .agg (TPrefix.c p2)] [] 0 (.tup [.agg (TExt.c R.1), .bool R.2]) [] 0 := by
 refine FnOk.wk i21 rfl rfl ?_
 unfold F21_redist_Has at hR
 change WK _ _ _ [ac21] _ ⟨[(0, .agg (TWorld.c w0)), (1, .int .i64 d1), (2, .agg (TPrefix.c p2))], [], 0⟩
 unfold ac21
 refine WK.sr mixed ?_
 refine GX.step (v' := .ptr 0 0) (heap' := [(0, .box (TWorld.c w0))]) (next' := 1) rfl rfl rfl rfl rfl rfl rfl ?_
 refine GX.step (v' := .ptr 1 0) (heap' := [(0, .box (TWorld.c w0)), (1, .box (TPrefix.c p2))]) (next' := 2) rfl rfl rfl rfl rfl rfl rfl ?_
 refine GX.step (v' := .ptr 2 0) (heap' := [(0, .box (TWorld.c w0)), (1, .box (TPrefix.c p2)), (2, .box [.int .u32 0, .int .i64 0, .int .u32 0, .bool false])]) (next' := 3) rfl rfl rfl rfl rfl rfl rfl ?_
 refine GX.m rfl ?_
 refine GX.done ?_
 refine WK.seq ?_
 refine WK.sr mixed ?_
 refine GX.q (.agg (TWorld.c w0)) ?_
 refine GX.m rfl ?_
 generalize hc15 : F30_redist_World_is w0 d1 = c15 at hR
 have hpo0_c15 := post_is w0 d1; rw [hc15] at hpo0_c15
 try dsimp only at hR
 refine GX.callp (r := .bool c15) rfl rfl rfl (f30_ok w0 d1 _ hc15) rfl rfl ?_
 refine GX.q (.bool (!c15)) ?_
 refine GX.done ?_
 rcases bool_two (c15) with hb1 | hb1
 ·rw [hb1]; try simp only [hb1, cond_true, cond_false, Bool.true_and, Bool.false_and, Bool.true_or, Bool.false_or, Bool.not_true, Bool.not_false] at hR
  refine WK.condT rfl ?_
  refine WK.sr mixed ?_
  refine GX.q (.agg [.int .u32 0, .int .i64 0, .int .u32 0, .bool false]) ?_
  refine GX.step0 (heap' := [(0, .box (TWorld.c w0)), (1, .box (TPrefix.c p2)), (2, .box [.int .u32 0, .int .i64 0, .int .u32 0, .bool false])]) (next' := 3) rfl rfl rfl rfl rfl ?_
  refine GX.m rfl ?_
  refine GX.done ?_
  refine WK.ret ?_
  subst hR
  exact RetQ.fr [] (.inr rfl) rfl rfl rfl rfl
 ·rw [hb1]; try simp only [hb1, cond_true, cond_false, Bool.true_and, Bool.false_and, Bool.true_or, Bool.false_or, Bool.not_true, Bool.not_false] at hR
  try have hq_hpo0_c15 := hpo0_c15 hb1
  refine WK.condF rfl ?_
  refine WK.skip ?_
  refine WK.sr mixed ?_
  refine GX.q (.ptr 0 0) ?_
  refine GX.q (.ro 3 (w0.D.map TDomain.c)) ?_
  refine GX.m rfl ?_
  refine GX.idxT (c := TDomain.c) (x := (w0.D.getD d1.toNat default)) rfl rfl rfl (by omega) (getD_at (by omega)) ?_
  refine GX.q (.agg [.int .u32 ((w0.D.getD d1.toNat default).Tag), .ro 2 (((w0.D.getD d1.toNat default).In).map TPrefix.c), .ro 4 (((w0.D.getD d1.toNat default).Ext).map TExt.c)]) ?_
  refine GX.step (v' := .ptr 3 0) (heap' := [(0, .box (TWorld.c w0)), (1, .box (TPrefix.c p2)), (2, .box [.int .u32 0, .int .i64 0, .int .u32 0, .bool false]), (3, .box [.int .u32 0, .nils, .nils])]) (next' := 4) rfl rfl rfl rfl rfl rfl rfl ?_
  refine GX.step0 (heap' := [(0, .box (TWorld.c w0)), (1, .box (TPrefix.c p2)), (2, .box [.int .u32 0, .int .i64 0, .int .u32 0, .bool false]), (3, .box [.int .u32 ((w0.D.getD d1.toNat default).Tag), .ro 2 (((w0.D.getD d1.toNat default).In).map TPrefix.c), .ro 4 (((w0.D.getD d1.toNat default).Ext).map TExt.c)])]) (next' := 4) rfl rfl rfl rfl rfl ?_
  refine GX.done ?_
  refine WK.seq ?_
  refine WK.sr mixed ?_
  refine GX.q (.agg [.int .u32 ((w0.D.getD d1.toNat default).Tag), .ro 2 (((w0.D.getD d1.toNat default).In).map TPrefix.c), .ro 4 (((w0.D.getD d1.toNat default).Ext).map TExt.c)]) ?_
  refine GX.q (.agg (TPrefix.c p2)) ?_
  generalize hc26 : F33_redist_Domain_own (w0.D.getD d1.toNat default) p2 = c26 at hR
  have hpo0_c26 := post_own (w0.D.getD d1.toNat default) p2 (by exact InvW.get (by assumption) _); rw [hc26] at hpo0_c26
  obtain ⟨c26a, c26b⟩ := c26; try dsimp only at hR; try dsimp only at hpo0_c26
  refine GX.callp (r := .tup [.int .i64 c26a, .bool c26b]) rfl rfl rfl (f33_ok (w0.D.getD d1.toNat default) p2 _ hc26) rfl rfl ?_
  refine GX.m rfl ?_
  refine GX.q (.int .i64 c26a) ?_
  refine GX.q (.bool c26b) ?_
  refine GX.m rfl ?_
  refine GX.m rfl ?_
  refine GX.done ?_
  refine WK.sr mixed ?_
  refine GX.m rfl ?_
  refine GX.done ?_
  rcases bool_two (c26b) with hb2 | hb2
  ·rw [hb2]; try simp only [hb2, cond_true, cond_false, Bool.true_and, Bool.false_and, Bool.true_or, Bool.false_or, Bool.not_true, Bool.not_false] at hR
   refine WK.condF rfl ?_
   refine WK.skip ?_
   refine WK.seq ?_
   refine WK.sr mixed ?_
   refine GX.q (.agg [.int .u32 ((w0.D.getD d1.toNat default).Tag), .ro 2 (((w0.D.getD d1.toNat default).In).map TPrefix.c), .ro 4 (((w0.D.getD d1.toNat default).Ext).map TExt.c)]) ?_
   refine GX.q (.agg (TPrefix.c p2)) ?_
   generalize hc37 : F43_redist_Domain_at (w0.D.getD d1.toNat default) p2 = c37 at hR
   have hpo0_c37 := post_at (w0.D.getD d1.toNat default) p2 (by exact InvW.get (by assumption) _); rw [hc37] at hpo0_c37
   have hpo1_c37 := post_at2 (w0.D.getD d1.toNat default) p2 (by exact InvW.get (by assumption) _); rw [hc37] at hpo1_c37
   obtain ⟨c37a, c37b⟩ := c37; try dsimp only at hR; try dsimp only at hpo0_c37; try dsimp only at hpo1_c37
   refine GX.callp (r := .tup [.int .i64 c37a, .bool c37b]) rfl rfl rfl (f43_ok (w0.D.getD d1.toNat default) p2 _ hc37) rfl rfl ?_
   refine GX.m rfl ?_
   refine GX.q (.int .i64 c37a) ?_
   refine GX.q (.bool c37b) ?_
   refine GX.m rfl ?_
   refine GX.m rfl ?_
   refine GX.done ?_
   refine WK.sr mixed ?_
   refine GX.m rfl ?_
   refine GX.done ?_
   rcases bool_two (c37b) with hb3 | hb3
   ·rw [hb3]; try simp only [hb3, cond_true, cond_false, Bool.true_and, Bool.false_and, Bool.true_or, Bool.false_or, Bool.not_true, Bool.not_false] at hR
    refine WK.condF rfl ?_
    refine WK.skip ?_
    refine WK.sr mixed ?_
    refine GX.q (.agg [.int .u32 0, .int .i64 0, .int .u32 0, .bool false]) ?_
    refine GX.step0 (heap' := [(0, .box (TWorld.c w0)), (1, .box (TPrefix.c p2)), (2, .box [.int .u32 0, .int .i64 0, .int .u32 0, .bool false]), (3, .box [.int .u32 ((w0.D.getD d1.toNat default).Tag), .ro 2 (((w0.D.getD d1.toNat default).In).map TPrefix.c), .ro 4 (((w0.D.getD d1.toNat default).Ext).map TExt.c)])]) (next' := 4) rfl rfl rfl rfl rfl ?_
    refine GX.m rfl ?_
    refine GX.done ?_
    refine WK.ret ?_
    subst hR
    exact RetQ.fr [] (.inr rfl) rfl rfl rfl rfl
   ·rw [hb3]; try simp only [hb3, cond_true, cond_false, Bool.true_and, Bool.false_and, Bool.true_or, Bool.false_or, Bool.not_true, Bool.not_false] at hR
    try have hq_hpo1_c37 := hpo1_c37 hb3
    refine WK.condT rfl ?_
    refine WK.sr mixed ?_
    refine GX.q (.ptr 3 2) ?_
    refine GX.q (.ro 4 (((w0.D.getD d1.toNat default).Ext).map TExt.c)) ?_
    refine GX.m rfl ?_
    refine GX.idxT (c := TExt.c) (x := (((w0.D.getD d1.toNat default).Ext).getD c37a.toNat default)) rfl rfl rfl (by omega) (getD_at (by omega)) ?_
    refine GX.q (.agg [.int .u32 (((((w0.D.getD d1.toNat default).Ext).getD c37a.toNat default).P).A), .int .i64 (((((w0.D.getD d1.toNat default).Ext).getD c37a.toNat default).P).N), .int .u32 ((((w0.D.getD d1.toNat default).Ext).getD c37a.toNat default).Tag), .bool ((((w0.D.getD d1.toNat default).Ext).getD c37a.toNat default).Marked)]) ?_
    refine GX.step0 (heap' := [(0, .box (TWorld.c w0)), (1, .box (TPrefix.c p2)), (2, .box [.int .u32 (((((w0.D.getD d1.toNat default).Ext).getD c37a.toNat default).P).A), .int .i64 (((((w0.D.getD d1.toNat default).Ext).getD c37a.toNat default).P).N), .int .u32 ((((w0.D.getD d1.toNat default).Ext).getD c37a.toNat default).Tag), .bool ((((w0.D.getD d1.toNat default).Ext).getD c37a.toNat default).Marked)]), (3, .box [.int .u32 ((w0.D.getD d1.toNat default).Tag), .ro 2 (((w0.D.getD d1.toNat default).In).map TPrefix.c), .ro 4 (((w0.D.getD d1.toNat default).Ext).map TExt.c)])]) (next' := 4) rfl rfl rfl rfl rfl ?_
    refine GX.m rfl ?_
    refine GX.done ?_
    refine WK.ret ?_
    subst hR
    exact RetQ.fr [] (.inr rfl) rfl rfl rfl rfl
  ·rw [hb2]; try simp only [hb2, cond_true, cond_false, Bool.true_and, Bool.false_and, Bool.true_or, Bool.false_or, Bool.not_true, Bool.not_false] at hR
   refine WK.condT rfl ?_
   refine WK.sr mixed ?_
   refine GX.q (.agg (TPrefix.c p2)) ?_
   refine GX.q (.ptr 3 0) ?_
   refine GX.q (.int .u32 ((w0.D.getD d1.toNat default).Tag)) ?_
   refine GX.q (.agg [.int .u32 p2.A, .int .i64 p2.N, .int .u32 ((w0.D.getD d1.toNat default).Tag), .bool false]) ?_
   refine GX.step0 (heap' := [(0, .box (TWorld.c w0)), (1, .box (TPrefix.c p2)), (2, .box [.int .u32 p2.A, .int .i64 p2.N, .int .u32 ((w0.D.getD d1.toNat default).Tag), .bool false]), (3, .box [.int .u32 ((w0.D.getD d1.toNat default).Tag), .ro 2 (((w0.D.getD d1.toNat default).In).map TPrefix.c), .ro 4 (((w0.D.getD d1.toNat default).Ext).map TExt.c)])]) (next' := 4) rfl rfl rfl rfl rfl ?_
   refine GX.m rfl ?_
   refine GX.done ?_
   refine WK.ret ?_
   subst hR
   exact RetQ.fr [] (.inr rfl) rfl rfl rfl rfl

theorem f42_ok (b0 : TBorder) (d1 : TDomain) (x2 : TExt) (hp0 : InvD d1) (R : Bool) (hR : F42_redist_Border_hears b0 d1 x2 = R) : FnOk Try.prog 42 [.agg (TBorder.c b0), .agg (TDomain.c d1), .agg (TExt.c x2)] [] 0 (.bool R) [] 0 := by
 refine FnOk.wk i42 rfl rfl ?_
 unfold F42_redist_Border_hears at hR
 change WK _ _ _ [ac42] _ ⟨[(0, .agg (TBorder.c b0)), (1, .agg (TDomain.c d1)), (2, .agg (TExt.c x2))], [], 0⟩
 unfold ac42
 refine WK.sr mixed ?_
 refine GX.step (v' := .ptr 0 0) (heap' := [(0, .box (TBorder.c b0))]) (next' := 1) rfl rfl rfl rfl rfl rfl rfl ?_
 refine GX.step (v' := .ptr 1 0) (heap' := [(0, .box (TBorder.c b0)), (1, .box (TDomain.c d1))]) (next' := 2) rfl rfl rfl rfl rfl rfl rfl ?_
 refine GX.step (v' := .ptr 2 0) (heap' := [(0, .box (TBorder.c b0)), (1, .box (TDomain.c d1)), (2, .box (TExt.c x2))]) (next' := 3) rfl rfl rfl rfl rfl rfl rfl ?_
 refine GX.m rfl ?_
 refine GX.done ?_
 refine WK.sr mixed ?_
 refine GX.q (.agg (TDomain.c d1)) ?_
 refine GX.q (.ptr 2 0) ?_
 refine GX.q (.agg [.int .u32 x2.P.A, .int .i64 x2.P.N]) ?_
 generalize hc13 : F33_redist_Domain_own d1 x2.P = c13 at hR
 have hpo0_c13 := post_own d1 x2.P (by omega); rw [hc13] at hpo0_c13
 obtain ⟨c13a, c13b⟩ := c13; try dsimp only at hR; try dsimp only at hpo0_c13
 refine GX.callp (r := .tup [.int .i64 c13a, .bool c13b]) rfl rfl rfl (f33_ok d1 x2.P _ hc13) rfl rfl ?_
 refine GX.m rfl ?_
 refine GX.q (.int .i64 c13a) ?_
 refine GX.q (.bool c13b) ?_
 refine GX.m rfl ?_
 refine GX.m rfl ?_
 refine GX.done ?_
 refine WK.sr mixed ?_
 refine GX.m rfl ?_
 refine GX.q (.bool (!c13b)) ?_
 refine GX.m rfl ?_
 rcases bool_two (c13b) with hb1 | hb1
 ·rw [hb1]; try simp only [hb1, cond_true, cond_false, Bool.true_and, Bool.false_and, Bool.true_or, Bool.false_or, Bool.not_true, Bool.not_false] at hR
  refine GX.q (.ptr 2 2) ?_
  refine GX.q (.int .u32 x2.Tag) ?_
  refine GX.q (.ptr 1 0) ?_
  refine GX.q (.int .u32 d1.Tag) ?_
  refine GX.q (.bool (!decide (x2.Tag = d1.Tag))) ?_
  refine GX.q (.bool (!decide (x2.Tag = d1.Tag))) ?_
  refine GX.m rfl ?_
  rcases bool_two (decide (x2.Tag = d1.Tag)) with hb2 | hb2
  ·rw [hb2]; try simp only [hb2, cond_true, cond_false, Bool.true_and, Bool.false_and, Bool.true_or, Bool.false_or, Bool.not_true, Bool.not_false] at hR
   refine GX.q (.ptr 0 2) ?_
   refine GX.q (.bool b0.Provider) ?_
   refine GX.m rfl ?_
   rcases bool_two (b0.Provider) with hb3 | hb3
   ·rw [hb3]; try simp only [hb3, cond_true, cond_false, Bool.true_and, Bool.false_and, Bool.true_or, Bool.false_or, Bool.not_true, Bool.not_false] at hR
    refine GX.skip rfl rfl ?_
    refine GX.skip rfl rfl ?_
    refine GX.q (.bool false) ?_
    refine GX.q (.bool true) ?_
    refine GX.q (.bool true) ?_
    refine GX.m rfl ?_
    refine GX.done ?_
    refine WK.ret ?_
    subst hR
    exact RetQ.fr [] (.inr rfl) rfl rfl rfl rfl
   ·rw [hb3]; try simp only [hb3, cond_true, cond_false, Bool.true_and, Bool.false_and, Bool.true_or, Bool.false_or, Bool.not_true, Bool.not_false] at hR
    refine GX.q (.ptr 2 3) ?_
    refine GX.q (.bool x2.Marked) ?_
    refine GX.q (.bool x2.Marked) ?_
    refine GX.q (.bool (!x2.Marked)) ?_
    refine GX.q (.bool (!x2.Marked)) ?_
    refine GX.m rfl ?_
    refine GX.done ?_
    refine WK.ret ?_
    subst hR
    exact RetQ.fr [] (.inr rfl) rfl rfl rfl rfl
  ·rw [hb2]; try simp only [hb2, cond_true, cond_false, Bool.true_and, Bool.false_and, Bool.true_or, Bool.false_or, Bool.not_true, Bool.not_false] at hR
   refine GX.skip rfl rfl ?_
   refine GX.skip rfl rfl ?_
   refine GX.skip rfl rfl ?_
   refine GX.skip rfl rfl ?_
   refine GX.skip rfl rfl ?_
   refine GX.skip rfl rfl ?_
   refine GX.skip rfl rfl ?_
   refine GX.q (.bool false) ?_
   refine GX.m rfl ?_
   refine GX.done ?_
   refine WK.ret ?_
   subst hR
   exact RetQ.fr [] (.inr rfl) rfl rfl rfl rfl
 ·rw [hb1]; try simp only [hb1, cond_true, cond_false, Bool.true_and, Bool.false_and, Bool.true_or, Bool.false_or, Bool.not_true, Bool.not_false] at hR
  refine GX.skip rfl rfl ?_
  refine GX.skip rfl rfl ?_
  refine GX.skip rfl rfl ?_
  refine GX.skip rfl rfl ?_
  refine GX.skip rfl rfl ?_
  refine GX.q (.bool false) ?_
  refine GX.m rfl ?_
  refine GX.skip rfl rfl ?_
  refine GX.skip rfl rfl ?_
  refine GX.skip rfl rfl ?_
  refine GX.skip rfl rfl ?_
  refine GX.skip rfl rfl ?_
  refine GX.skip rfl rfl ?_
  refine GX.skip rfl rfl ?_
  refine GX.q (.bool false) ?_
  refine GX.m rfl ?_
  refine GX.done ?_
  refine WK.ret ?_
  subst hR
  exact RetQ.fr [] (.inr rfl) rfl rfl rfl rfl

theorem f17_ok (w0 : TWorld) (b1 : TBorder) (p2 : TPrefix) (hp0 : InvW w0) (R : TWorld × Bool × Int) (hR : F17_redist_Tell w0 b1 p2 = R) : FnOk Try.prog 17 [.agg (TWorld.c w0), .agg (TBorder.c b1), .agg (TPrefix.c p2)] [] 0 (.tup [.agg (TWorld.c R.1), .bool R.2.1, .int .i64 R.2.2]) [] 0 := by
 refine FnOk.wk i17 rfl rfl ?_
 unfold F17_redist_Tell at hR
 change WK _ _ _ [ac17] _ ⟨[(0, .agg (TWorld.c w0)), (1, .agg (TBorder.c b1)), (2, .agg (TPrefix.c p2))], [], 0⟩
 unfold ac17
 refine WK.sr mixed ?_
 refine GX.step (v' := .ptr 0 0) (heap' := [(0, .box (TWorld.c w0))]) (next' := 1) rfl rfl rfl rfl rfl rfl rfl ?_
 refine GX.step (v' := .ptr 1 0) (heap' := [(0, .box (TWorld.c w0)), (1, .box (TBorder.c b1))]) (next' := 2) rfl rfl rfl rfl rfl rfl rfl ?_
 refine GX.step (v' := .ptr 2 0) (heap' := [(0, .box (TWorld.c w0)), (1, .box (TBorder.c b1)), (2, .box (TPrefix.c p2))]) (next' := 3) rfl rfl rfl rfl rfl rfl rfl ?_
 refine GX.step (v' := .ptr 3 0) (heap' := [(0, .box (TWorld.c w0)), (1, .box (TBorder.c b1)), (2, .box (TPrefix.c p2)), (3, .box [.nils])]) (next' := 4) rfl rfl rfl rfl rfl rfl rfl ?_
 refine GX.m rfl ?_
 refine GX.m rfl ?_
 refine GX.done ?_
 refine WK.seq ?_
 refine WK.sr mixed ?_
 refine GX.q (.agg (TWorld.c w0)) ?_
 refine GX.q (.ptr 1 0) ?_
 refine GX.q (.int .i64 b1.From) ?_
 generalize hc17 : F30_redist_World_is w0 b1.From = c17 at hR
 have hpo0_c17 := post_is w0 b1.From; rw [hc17] at hpo0_c17
 try dsimp only at hR
 refine GX.callp (r := .bool c17) rfl rfl rfl (f30_ok w0 b1.From _ hc17) rfl rfl ?_
 refine GX.q (.bool (!c17)) ?_
 refine GX.m rfl ?_
 rcases bool_two (c17) with hb1 | hb1
 ·rw [hb1]; try simp only [hb1, cond_true, cond_false, Bool.true_and, Bool.false_and, Bool.true_or, Bool.false_or, Bool.not_true, Bool.not_false] at hR
  refine GX.skip rfl rfl ?_
  refine GX.skip rfl rfl ?_
  refine GX.skip rfl rfl ?_
  refine GX.skip rfl rfl ?_
  refine GX.skip rfl rfl ?_
  refine GX.q (.bool true) ?_
  refine GX.m rfl ?_
  refine GX.skip rfl rfl ?_
  refine GX.skip rfl rfl ?_
  refine GX.skip rfl rfl ?_
  refine GX.skip rfl rfl ?_
  refine GX.skip rfl rfl ?_
  refine GX.q (.bool true) ?_
  refine GX.m rfl ?_
  refine GX.skip rfl rfl ?_
  refine GX.skip rfl rfl ?_
  refine GX.skip rfl rfl ?_
  refine GX.q (.bool true) ?_
  refine GX.done ?_
  refine WK.condT rfl ?_
  refine WK.sr mixed ?_
  refine GX.q (.agg (TWorld.c w0)) ?_
  refine GX.step0 (heap' := [(0, .box (TWorld.c w0)), (1, .box (TBorder.c b1)), (2, .box (TPrefix.c p2)), (3, .box (TWorld.c w0))]) (next' := 4) rfl rfl rfl rfl rfl ?_
  refine GX.m rfl ?_
  refine GX.m rfl ?_
  refine GX.done ?_
  refine WK.ret ?_
  subst hR
  exact RetQ.fr [] (.inr rfl) rfl rfl rfl rfl
 ·rw [hb1]; try simp only [hb1, cond_true, cond_false, Bool.true_and, Bool.false_and, Bool.true_or, Bool.false_or, Bool.not_true, Bool.not_false] at hR
  try have hq_hpo0_c17 := hpo0_c17 hb1
  refine GX.q (.agg (TWorld.c w0)) ?_
  refine GX.q (.ptr 1 1) ?_
  refine GX.q (.int .i64 b1.To) ?_
  generalize hc23 : F30_redist_World_is w0 b1.To = c23 at hR
  have hpo0_c23 := post_is w0 b1.To; rw [hc23] at hpo0_c23
  try dsimp only at hR
  refine GX.callp (r := .bool c23) rfl rfl rfl (f30_ok w0 b1.To _ hc23) rfl rfl ?_
  refine GX.q (.bool (!c23)) ?_
  refine GX.q (.bool (!c23)) ?_
  refine GX.m rfl ?_
  rcases bool_two (c23) with hb2 | hb2
  ·rw [hb2]; try simp only [hb2, cond_true, cond_false, Bool.true_and, Bool.false_and, Bool.true_or, Bool.false_or, Bool.not_true, Bool.not_false] at hR
   refine GX.skip rfl rfl ?_
   refine GX.skip rfl rfl ?_
   refine GX.skip rfl rfl ?_
   refine GX.skip rfl rfl ?_
   refine GX.skip rfl rfl ?_
   refine GX.q (.bool true) ?_
   refine GX.m rfl ?_
   refine GX.skip rfl rfl ?_
   refine GX.skip rfl rfl ?_
   refine GX.skip rfl rfl ?_
   refine GX.q (.bool true) ?_
   refine GX.done ?_
   refine WK.condT rfl ?_
   refine WK.sr mixed ?_
   refine GX.q (.agg (TWorld.c w0)) ?_
   refine GX.step0 (heap' := [(0, .box (TWorld.c w0)), (1, .box (TBorder.c b1)), (2, .box (TPrefix.c p2)), (3, .box (TWorld.c w0))]) (next' := 4) rfl rfl rfl rfl rfl ?_
   refine GX.m rfl ?_
   refine GX.m rfl ?_
   refine GX.done ?_
   refine WK.ret ?_
   subst hR
   exact RetQ.fr [] (.inr rfl) rfl rfl rfl rfl
  ·rw [hb2]; try simp only [hb2, cond_true, cond_false, Bool.true_and, Bool.false_and, Bool.true_or, Bool.false_or, Bool.not_true, Bool.not_false] at hR
   try have hq_hpo0_c23 := hpo0_c23 hb2
   refine GX.q (.ptr 1 0) ?_
   refine GX.q (.int .i64 b1.From) ?_
   refine GX.q (.ptr 1 1) ?_
   refine GX.q (.int .i64 b1.To) ?_
   refine GX.q (.bool (decide (b1.From = b1.To))) ?_
   refine GX.q (.bool (decide (b1.From = b1.To))) ?_
   refine GX.m rfl ?_
   rcases bool_two (decide (b1.From = b1.To)) with hb3 | hb3
   ·rw [hb3]; try simp only [hb3, cond_true, cond_false, Bool.true_and, Bool.false_and, Bool.true_or, Bool.false_or, Bool.not_true, Bool.not_false] at hR
    refine GX.q (.agg (TPrefix.c p2)) ?_
    generalize hc35 : F31_addr_May p2 = c35 at hR
    try dsimp only at hR
    refine GX.callp (r := .bool c35) rfl rfl rfl (f31_ok p2 _ hc35) rfl rfl ?_
    refine GX.q (.bool (!c35)) ?_
    refine GX.q (.bool (!c35)) ?_
    refine GX.done ?_
    rcases bool_two (c35) with hb4 | hb4
    ·rw [hb4]; try simp only [hb4, cond_true, cond_false, Bool.true_and, Bool.false_and, Bool.true_or, Bool.false_or, Bool.not_true, Bool.not_false] at hR
     refine WK.condT rfl ?_
     refine WK.sr mixed ?_
     refine GX.q (.agg (TWorld.c w0)) ?_
     refine GX.step0 (heap' := [(0, .box (TWorld.c w0)), (1, .box (TBorder.c b1)), (2, .box (TPrefix.c p2)), (3, .box (TWorld.c w0))]) (next' := 4) rfl rfl rfl rfl rfl ?_
     refine GX.m rfl ?_
     refine GX.m rfl ?_
     refine GX.done ?_
     refine WK.ret ?_
     subst hR
     exact RetQ.fr [] (.inr rfl) rfl rfl rfl rfl
    ·rw [hb4]; try simp only [hb4, cond_true, cond_false, Bool.true_and, Bool.false_and, Bool.true_or, Bool.false_or, Bool.not_true, Bool.not_false] at hR
     refine WK.condF rfl ?_
     refine WK.skip ?_
     refine WK.sr mixed ?_
     refine GX.q (.agg (TWorld.c w0)) ?_
     refine GX.q (.ptr 1 0) ?_
     refine GX.q (.int .i64 b1.From) ?_
     refine GX.q (.agg (TPrefix.c p2)) ?_
     generalize hc44 : F21_redist_Has w0 b1.From p2 = c44 at hR
     obtain ⟨c44a, c44b⟩ := c44; try dsimp only at hR
     refine GX.callp (r := .tup [.agg [.int .u32 c44a.P.A, .int .i64 c44a.P.N, .int .u32 c44a.Tag, .bool c44a.Marked], .bool c44b]) rfl rfl rfl (f21_ok w0 b1.From p2 (by omega) _ hc44) rfl rfl ?_
     refine GX.m rfl ?_
     refine GX.q (.agg [.int .u32 c44a.P.A, .int .i64 c44a.P.N, .int .u32 c44a.Tag, .bool c44a.Marked]) ?_
     refine GX.q (.bool c44b) ?_
     refine GX.step (v' := .ptr 4 0) (heap' := [(0, .box (TWorld.c w0)), (1, .box (TBorder.c b1)), (2, .box (TPrefix.c p2)), (3, .box [.nils]), (4, .box [.int .u32 0, .int .i64 0, .int .u32 0, .bool false])]) (next' := 5) rfl rfl rfl rfl rfl rfl rfl ?_
     refine GX.step0 (heap' := [(0, .box (TWorld.c w0)), (1, .box (TBorder.c b1)), (2, .box (TPrefix.c p2)), (3, .box [.nils]), (4, .box (TExt.c c44a))]) (next' := 5) rfl rfl rfl rfl rfl ?_
     refine GX.m rfl ?_
     refine GX.done ?_
     refine WK.sr mixed ?_
     refine GX.q (.ptr 0 0) ?_
     refine GX.q (.ro 3 (w0.D.map TDomain.c)) ?_
     refine GX.q (.ptr 1 1) ?_
     refine GX.q (.int .i64 b1.To) ?_
     refine GX.idxT (c := TDomain.c) (x := (w0.D.getD b1.To.toNat default)) rfl rfl rfl (by omega) (getD_at (by omega)) ?_
     refine GX.q (.agg [.int .u32 ((w0.D.getD b1.To.toNat default).Tag), .ro 2 (((w0.D.getD b1.To.toNat default).In).map TPrefix.c), .ro 4 (((w0.D.getD b1.To.toNat default).Ext).map TExt.c)]) ?_
     refine GX.step (v' := .ptr 5 0) (heap' := [(0, .box (TWorld.c w0)), (1, .box (TBorder.c b1)), (2, .box (TPrefix.c p2)), (3, .box [.nils]), (4, .box (TExt.c c44a)), (5, .box [.int .u32 0, .nils, .nils])]) (next' := 6) rfl rfl rfl rfl rfl rfl rfl ?_
     refine GX.step0 (heap' := [(0, .box (TWorld.c w0)), (1, .box (TBorder.c b1)), (2, .box (TPrefix.c p2)), (3, .box [.nils]), (4, .box (TExt.c c44a)), (5, .box [.int .u32 ((w0.D.getD b1.To.toNat default).Tag), .ro 2 (((w0.D.getD b1.To.toNat default).In).map TPrefix.c), .ro 4 (((w0.D.getD b1.To.toNat default).Ext).map TExt.c)])]) (next' := 6) rfl rfl rfl rfl rfl ?_
     refine GX.done ?_
     refine WK.seq ?_
     refine WK.sr mixed ?_
     refine GX.m rfl ?_
     refine GX.q (.bool (!c44b)) ?_
     refine GX.m rfl ?_
     rcases bool_two (c44b) with hb5 | hb5
     ·rw [hb5]; try simp only [hb5, cond_true, cond_false, Bool.true_and, Bool.false_and, Bool.true_or, Bool.false_or, Bool.not_true, Bool.not_false] at hR
      refine GX.skip rfl rfl ?_
      refine GX.skip rfl rfl ?_
      refine GX.skip rfl rfl ?_
      refine GX.skip rfl rfl ?_
      refine GX.skip rfl rfl ?_
      refine GX.q (.bool true) ?_
      refine GX.done ?_
      refine WK.condT rfl ?_
      refine WK.sr mixed ?_
      refine GX.q (.agg (TWorld.c w0)) ?_
      refine GX.step0 (heap' := [(0, .box (TWorld.c w0)), (1, .box (TBorder.c b1)), (2, .box (TPrefix.c p2)), (3, .box (TWorld.c w0)), (4, .box (TExt.c c44a)), (5, .box [.int .u32 ((w0.D.getD b1.To.toNat default).Tag), .ro 2 (((w0.D.getD b1.To.toNat default).In).map TPrefix.c), .ro 4 (((w0.D.getD b1.To.toNat default).Ext).map TExt.c)])]) (next' := 6) rfl rfl rfl rfl rfl ?_
      refine GX.m rfl ?_
      refine GX.m rfl ?_
      refine GX.done ?_
      refine WK.ret ?_
      subst hR
      exact RetQ.fr [] (.inr rfl) rfl rfl rfl rfl
     ·rw [hb5]; try simp only [hb5, cond_true, cond_false, Bool.true_and, Bool.false_and, Bool.true_or, Bool.false_or, Bool.not_true, Bool.not_false] at hR
      refine GX.q (.agg (TBorder.c b1)) ?_
      refine GX.q (.agg [.int .u32 ((w0.D.getD b1.To.toNat default).Tag), .ro 2 (((w0.D.getD b1.To.toNat default).In).map TPrefix.c), .ro 4 (((w0.D.getD b1.To.toNat default).Ext).map TExt.c)]) ?_
      refine GX.q (.agg (TExt.c c44a)) ?_
      generalize hc59 : F42_redist_Border_hears b1 (w0.D.getD b1.To.toNat default) c44a = c59 at hR
      try dsimp only at hR
      refine GX.callp (r := .bool c59) rfl rfl rfl (f42_ok b1 (w0.D.getD b1.To.toNat default) c44a (by exact InvW.get (by assumption) _) _ hc59) rfl rfl ?_
      refine GX.q (.bool (!c59)) ?_
      refine GX.q (.bool (!c59)) ?_
      refine GX.done ?_
      rcases bool_two (c59) with hb6 | hb6
      ·rw [hb6]; try simp only [hb6, cond_true, cond_false, Bool.true_and, Bool.false_and, Bool.true_or, Bool.false_or, Bool.not_true, Bool.not_false] at hR
       refine WK.condT rfl ?_
       refine WK.sr mixed ?_
       refine GX.q (.agg (TWorld.c w0)) ?_
       refine GX.step0 (heap' := [(0, .box (TWorld.c w0)), (1, .box (TBorder.c b1)), (2, .box (TPrefix.c p2)), (3, .box (TWorld.c w0)), (4, .box (TExt.c c44a)), (5, .box [.int .u32 ((w0.D.getD b1.To.toNat default).Tag), .ro 2 (((w0.D.getD b1.To.toNat default).In).map TPrefix.c), .ro 4 (((w0.D.getD b1.To.toNat default).Ext).map TExt.c)])]) (next' := 6) rfl rfl rfl rfl rfl ?_
       refine GX.m rfl ?_
       refine GX.m rfl ?_
       refine GX.done ?_
       refine WK.ret ?_
       subst hR
       exact RetQ.fr [] (.inr rfl) rfl rfl rfl rfl
      ·rw [hb6]; try simp only [hb6, cond_true, cond_false, Bool.true_and, Bool.false_and, Bool.true_or, Bool.false_or, Bool.not_true, Bool.not_false] at hR
       refine WK.condF rfl ?_
       refine WK.skip ?_
       refine WK.sr mixed ?_
       refine GX.q (.ptr 1 2) ?_
       refine GX.q (.bool b1.Provider) ?_
       refine GX.q (.ptr 4 3) ?_
       refine GX.step0 (heap' := [(0, .box (TWorld.c w0)), (1, .box (TBorder.c b1)), (2, .box (TPrefix.c p2)), (3, .box [.nils]), (4, .box [.int .u32 c44a.P.A, .int .i64 c44a.P.N, .int .u32 c44a.Tag, .bool b1.Provider]), (5, .box [.int .u32 ((w0.D.getD b1.To.toNat default).Tag), .ro 2 (((w0.D.getD b1.To.toNat default).In).map TPrefix.c), .ro 4 (((w0.D.getD b1.To.toNat default).Ext).map TExt.c)])]) (next' := 6) rfl rfl rfl rfl rfl ?_
       refine GX.done ?_
       refine WK.sr mixed ?_
       refine GX.q (.agg [.int .u32 ((w0.D.getD b1.To.toNat default).Tag), .ro 2 (((w0.D.getD b1.To.toNat default).In).map TPrefix.c), .ro 4 (((w0.D.getD b1.To.toNat default).Ext).map TExt.c)]) ?_
       refine GX.q (.agg (TPrefix.c p2)) ?_
       generalize hc69 : F43_redist_Domain_at (w0.D.getD b1.To.toNat default) p2 = c69 at hR
       have hpo0_c69 := post_at (w0.D.getD b1.To.toNat default) p2 (by exact InvW.get (by assumption) _); rw [hc69] at hpo0_c69
       have hpo1_c69 := post_at2 (w0.D.getD b1.To.toNat default) p2 (by exact InvW.get (by assumption) _); rw [hc69] at hpo1_c69
       obtain ⟨c69a, c69b⟩ := c69; try dsimp only at hR; try dsimp only at hpo0_c69; try dsimp only at hpo1_c69
       refine GX.callp (r := .tup [.int .i64 c69a, .bool c69b]) rfl rfl rfl (f43_ok (w0.D.getD b1.To.toNat default) p2 _ hc69) rfl rfl ?_
       refine GX.m rfl ?_
       refine GX.q (.int .i64 c69a) ?_
       refine GX.q (.bool c69b) ?_
       refine GX.m rfl ?_
       refine GX.m rfl ?_
       refine GX.done ?_
       refine WK.sr mixed ?_
       refine GX.q (.ptr 5 2) ?_
       refine GX.q (.ro 4 (((w0.D.getD b1.To.toNat default).Ext).map TExt.c)) ?_
       refine GX.callx (r' := .own 6 4 0 ((w0.D.getD b1.To.toNat default).Ext).length) (heap' := [(0, .box (TWorld.c w0)), (1, .box (TBorder.c b1)), (2, .box (TPrefix.c p2)), (3, .box [.nils]), (4, .box [.int .u32 c44a.P.A, .int .i64 c44a.P.N, .int .u32 c44a.Tag, .bool b1.Provider]), (5, .box [.int .u32 ((w0.D.getD b1.To.toNat default).Tag), .ro 2 (((w0.D.getD b1.To.toNat default).In).map TPrefix.c), .ro 4 (((w0.D.getD b1.To.toNat default).Ext).map TExt.c)]), (6, .row 4 42 (((w0.D.getD b1.To.toNat default).Ext).map TExt.c))]) (next' := 7) [] [] rfl rfl rfl rfl rfl rfl (clone_okT (c := TExt.c) mixed i44 ((w0.D.getD b1.To.toNat default).Ext) (by decide) (by omega) (by omega)) (.inl rfl) rfl rfl rfl ?_
       refine GX.q (.ptr 5 2) ?_
       refine GX.step0 (heap' := [(0, .box (TWorld.c w0)), (1, .box (TBorder.c b1)), (2, .box (TPrefix.c p2)), (3, .box [.nils]), (4, .box [.int .u32 c44a.P.A, .int .i64 c44a.P.N, .int .u32 c44a.Tag, .bool b1.Provider]), (5, .box [.int .u32 ((w0.D.getD b1.To.toNat default).Tag), .ro 2 (((w0.D.getD b1.To.toNat default).In).map TPrefix.c), .own 6 4 0 ((w0.D.getD b1.To.toNat default).Ext).length]), (6, .row 4 42 (((w0.D.getD b1.To.toNat default).Ext).map TExt.c))]) (next' := 7) rfl rfl rfl rfl rfl ?_
       refine GX.done ?_
       refine WK.seq ?_
       refine WK.blockK (fun _ hK7 => ?_)
       refine WK.seq ?_
       refine WK.drawn mixed ?_
       refine RD.m rfl ?_
       refine RD.m rfl ?_
       rcases bool_two (c69b) with hb8 | hb8
       ·rw [hb8]; try simp only [hb8, cond_true, cond_false, Bool.true_and, Bool.false_and, Bool.true_or, Bool.false_or, Bool.not_true, Bool.not_false] at hR
        refine RD.skip rfl rfl ?_
        refine RD.skip rfl rfl ?_
        refine RD.skip rfl rfl ?_
        refine RD.skip rfl rfl ?_
        refine RD.skip rfl rfl ?_
        refine RD.skip rfl rfl ?_
        refine RD.skip rfl rfl ?_
        refine RD.q (.bool false) ?_
        refine RD.m rfl ?_
        refine RD.done rfl ?_
        refine WK.condF rfl ?_
        refine WK.sr mixed ?_
        refine GX.m rfl ?_
        refine GX.m rfl ?_
        refine GX.done ?_
        refine WK.condF rfl ?_
        refine WK.sr mixed ?_
        refine GX.q (.ptr 5 2) ?_
        refine GX.q (.own 6 4 0 ((w0.D.getD b1.To.toNat default).Ext).length) ?_
        refine GX.q (.int .i64 (((w0.D.getD b1.To.toNat default).Ext).length : Int)) ?_
        refine GX.q (.bool (decide (50 ≤ (((w0.D.getD b1.To.toNat default).Ext).length : Int)))) ?_
        refine GX.m rfl ?_
        refine GX.done ?_
        rcases bool_two (decide (50 ≤ (((w0.D.getD b1.To.toNat default).Ext).length : Int))) with hb9 | hb9
        ·rw [hb9]; try simp only [hb9, cond_true, cond_false, Bool.true_and, Bool.false_and, Bool.true_or, Bool.false_or, Bool.not_true, Bool.not_false] at hR
         refine WK.condF rfl ?_
         refine WK.regx mixed ?_
         refine GX.q (.ptr 5 2) ?_
         refine GX.q (.own 6 4 0 ((w0.D.getD b1.To.toNat default).Ext).length) ?_
         refine GX.m rfl ?_
         refine GX.q (.agg [.int .u32 c44a.P.A, .int .i64 c44a.P.N, .int .u32 c44a.Tag, .bool b1.Provider]) ?_
         refine GX.step (v' := .own 7 4 0 (([(⟨c44a.P, c44a.Tag, b1.Provider⟩ : TExt)] : List TExt)).length) (heap' := [(0, .box (TWorld.c w0)), (1, .box (TBorder.c b1)), (2, .box (TPrefix.c p2)), (3, .box [.nils]), (4, .box [.int .u32 c44a.P.A, .int .i64 c44a.P.N, .int .u32 c44a.Tag, .bool b1.Provider]), (5, .box [.int .u32 ((w0.D.getD b1.To.toNat default).Tag), .ro 2 (((w0.D.getD b1.To.toNat default).In).map TPrefix.c), .own 6 4 0 ((w0.D.getD b1.To.toNat default).Ext).length]), (6, .row 4 42 (((w0.D.getD b1.To.toNat default).Ext).map TExt.c)), (7, .row 4 42 (([(⟨c44a.P, c44a.Tag, b1.Provider⟩ : TExt)] : List TExt).map TExt.c))]) (next' := 8) rfl rfl rfl rfl rfl rfl rfl ?_
         refine GX.callx (r' := .own 8 4 0 (ins_ ((w0.D.getD b1.To.toNat default).Ext) c69a ([(⟨c44a.P, c44a.Tag, b1.Provider⟩ : TExt)] : List TExt)).length) (heap' := [(0, .box (TWorld.c w0)), (1, .box (TBorder.c b1)), (2, .box (TPrefix.c p2)), (3, .box [.nils]), (4, .box [.int .u32 c44a.P.A, .int .i64 c44a.P.N, .int .u32 c44a.Tag, .bool b1.Provider]), (5, .box [.int .u32 ((w0.D.getD b1.To.toNat default).Tag), .ro 2 (((w0.D.getD b1.To.toNat default).In).map TPrefix.c), .own 6 4 0 ((w0.D.getD b1.To.toNat default).Ext).length]), (8, .row 4 42 ((ins_ ((w0.D.getD b1.To.toNat default).Ext) c69a ([(⟨c44a.P, c44a.Tag, b1.Provider⟩ : TExt)] : List TExt)).map TExt.c))]) (next' := 9) [6, 7] [] rfl rfl rfl rfl rfl rfl (insert_okT (c := TExt.c) (fun _ => rfl) mixed i45 ov45 ((w0.D.getD b1.To.toNat default).Ext) ([(⟨c44a.P, c44a.Tag, b1.Provider⟩ : TExt)] : List TExt) c69a rfl rfl (by omega) (by omega) (by (simp; done)) (by ((try simp only [List.length_append, List.length_cons, List.length_nil, List.length_map, decide_eq_true_eq, decide_eq_false_iff_not] at *) <;> omega)) (by ((try simp only [List.length_append, List.length_cons, List.length_nil, List.length_map, decide_eq_true_eq, decide_eq_false_iff_not] at *) <;> omega))) (.inl rfl) rfl rfl rfl ?_
         refine GX.q (.ptr 5 2) ?_
         refine GX.step0 (heap' := [(0, .box (TWorld.c w0)), (1, .box (TBorder.c b1)), (2, .box (TPrefix.c p2)), (3, .box [.nils]), (4, .box [.int .u32 c44a.P.A, .int .i64 c44a.P.N, .int .u32 c44a.Tag, .bool b1.Provider]), (5, .box [.int .u32 ((w0.D.getD b1.To.toNat default).Tag), .ro 2 (((w0.D.getD b1.To.toNat default).In).map TPrefix.c), .own 8 4 0 (ins_ ((w0.D.getD b1.To.toNat default).Ext) c69a ([(⟨c44a.P, c44a.Tag, b1.Provider⟩ : TExt)] : List TExt)).length]), (8, .row 4 42 ((ins_ ((w0.D.getD b1.To.toNat default).Ext) c69a ([(⟨c44a.P, c44a.Tag, b1.Provider⟩ : TExt)] : List TExt)).map TExt.c))]) (next' := 9) rfl rfl rfl rfl rfl ?_
         refine GX.done ?_
         refine WK.nil (QF.normal (hK7 _ ?_))
         refine WK.seq ?_
         refine WK.conv (st' := ⟨[(3, .ptr 0 0), (4, .ptr 1 0), (6, .ptr 2 0), (11, .ptr 3 0)], [(0, .box (TWorld.c w0)), (1, .box (TBorder.c b1)), (2, .box [.nils]), (3, .box [.int .u32 ((w0.D.getD b1.To.toNat default).Tag), .ro 2 (((w0.D.getD b1.To.toNat default).In).map TPrefix.c), .ro 4 ((ins_ ((w0.D.getD b1.To.toNat default).Ext) c69a ([(⟨c44a.P, c44a.Tag, b1.Provider⟩ : TExt)] : List TExt)).map TExt.c)])], 4⟩) (Conv.keep [0, 1, 3, 5] [8] [3, 4, 6, 11] rfl rfl (viewE_cons rfl rfl (viewE_cons rfl rfl (viewE_cons rfl rfl (viewE_cons rfl rfl viewE_nil)))) (subH_cons rfl rfl (subH_cons rfl rfl (subH_cons rfl rfl (subH_cons rfl (viewO_box (viewGo_cons rfl (viewGo_cons rfl (viewGo_cons (view_rowT rfl rfl) viewGo_nil)))) subH_nil)))) rfl) ?_ (by simp)
         refine WK.regx mixed ?_
         refine GX.q (.agg (TWorld.c w0)) ?_
         refine GX.q (.ptr 1 1) ?_
         refine GX.q (.int .i64 b1.To) ?_
         refine GX.q (.agg [.int .u32 ((w0.D.getD b1.To.toNat default).Tag), .ro 2 (((w0.D.getD b1.To.toNat default).In).map TPrefix.c), .ro 4 ((ins_ ((w0.D.getD b1.To.toNat default).Ext) c69a ([(⟨c44a.P, c44a.Tag, b1.Provider⟩ : TExt)] : List TExt)).map TExt.c)]) ?_
         generalize hc112 : F36_redist_World_with w0 b1.To (⟨(w0.D.getD b1.To.toNat default).Tag, (w0.D.getD b1.To.toNat default).In, (ins_ ((w0.D.getD b1.To.toNat default).Ext) c69a ([(⟨c44a.P, c44a.Tag, b1.Provider⟩ : TExt)] : List TExt))⟩ : TDomain) = c112 at hR
         try dsimp only at hR
         refine GX.callp (r := .agg [.ro 3 (c112.D.map TDomain.c)]) rfl rfl rfl (f36_ok w0 b1.To (⟨(w0.D.getD b1.To.toNat default).Tag, (w0.D.getD b1.To.toNat default).In, (ins_ ((w0.D.getD b1.To.toNat default).Ext) c69a ([(⟨c44a.P, c44a.Tag, b1.Provider⟩ : TExt)] : List TExt))⟩ : TDomain) (by exact InvW.le1000 (by assumption)) (by omega) (by omega) _ hc112) rfl rfl ?_
         refine GX.step0 (heap' := [(0, .box (TWorld.c w0)), (1, .box (TBorder.c b1)), (2, .box (TWorld.c c112)), (3, .box [.int .u32 ((w0.D.getD b1.To.toNat default).Tag), .ro 2 (((w0.D.getD b1.To.toNat default).In).map TPrefix.c), .ro 4 ((ins_ ((w0.D.getD b1.To.toNat default).Ext) c69a ([(⟨c44a.P, c44a.Tag, b1.Provider⟩ : TExt)] : List TExt)).map TExt.c)])]) (next' := 4) rfl rfl rfl rfl rfl ?_
         refine GX.m rfl ?_
         refine GX.m rfl ?_
         refine GX.done ?_
         refine WK.ret ?_
         subst hR
         exact RetQ.fr [] (.inr rfl) rfl rfl rfl rfl
        ·rw [hb9]; try simp only [hb9, cond_true, cond_false, Bool.true_and, Bool.false_and, Bool.true_or, Bool.false_or, Bool.not_true, Bool.not_false] at hR
         refine WK.condT rfl ?_
         refine WK.sr mixed ?_
         refine GX.q (.agg (TWorld.c w0)) ?_
         refine GX.step0 (heap' := [(0, .box (TWorld.c w0)), (1, .box (TBorder.c b1)), (2, .box (TPrefix.c p2)), (3, .box (TWorld.c w0)), (4, .box [.int .u32 c44a.P.A, .int .i64 c44a.P.N, .int .u32 c44a.Tag, .bool b1.Provider]), (5, .box [.int .u32 ((w0.D.getD b1.To.toNat default).Tag), .ro 2 (((w0.D.getD b1.To.toNat default).In).map TPrefix.c), .own 6 4 0 ((w0.D.getD b1.To.toNat default).Ext).length]), (6, .row 4 42 (((w0.D.getD b1.To.toNat default).Ext).map TExt.c))]) (next' := 7) rfl rfl rfl rfl rfl ?_
         refine GX.m rfl ?_
         refine GX.m rfl ?_
         refine GX.done ?_
         refine WK.ret ?_
         refine QF.ret ?_
         subst hR
         exact RetQ.fr [] (.inr rfl) rfl rfl rfl rfl
       ·rw [hb8]; try simp only [hb8, cond_true, cond_false, Bool.true_and, Bool.false_and, Bool.true_or, Bool.false_or, Bool.not_true, Bool.not_false] at hR
        try have hq_hpo1_c69 := hpo1_c69 hb8
        refine RD.q (.ptr 5 2) ?_
        refine RD.q (.own 6 4 0 ((w0.D.getD b1.To.toNat default).Ext).length) ?_
        refine RD.m rfl ?_
        refine RD.pure (v' := .eptr 6 4 c69a.toNat 0) rfl rfl rfl (core_idxoT (c := TExt.c) (L := (w0.D.getD b1.To.toNat default).Ext) (j := c69a.toNat) rfl (by omega) (by omega) (by exact Nat.le_refl _)) rfl ?_
        refine RD.pure (v' := .agg [.int .u32 (((((w0.D.getD b1.To.toNat default).Ext).getD c69a.toNat default).P).A), .int .i64 (((((w0.D.getD b1.To.toNat default).Ext).getD c69a.toNat default).P).N), .int .u32 ((((w0.D.getD b1.To.toNat default).Ext).getD c69a.toNat default).Tag), .bool ((((w0.D.getD b1.To.toNat default).Ext).getD c69a.toNat default).Marked)]) rfl rfl rfl (core_loaT (c := TExt.c) (L := (w0.D.getD b1.To.toNat default).Ext) (x := (((w0.D.getD b1.To.toNat default).Ext).getD c69a.toNat default)) rfl (getD_at (by omega)) rfl) rfl ?_
        refine RD.q (.agg [.int .u32 c44a.P.A, .int .i64 c44a.P.N, .int .u32 c44a.Tag, .bool b1.Provider]) ?_
        refine RD.q (.bool (decide (((((w0.D.getD b1.To.toNat default).Ext).getD c69a.toNat default).P).A = c44a.P.A) && (decide (((((w0.D.getD b1.To.toNat default).Ext).getD c69a.toNat default).P).N = c44a.P.N) && (decide ((((w0.D.getD b1.To.toNat default).Ext).getD c69a.toNat default).Tag = c44a.Tag) && ((((((w0.D.getD b1.To.toNat default).Ext).getD c69a.toNat default).Marked) == b1.Provider) && true))))) ?_
        refine RD.q (.bool (decide (((((w0.D.getD b1.To.toNat default).Ext).getD c69a.toNat default).P).A = c44a.P.A) && (decide (((((w0.D.getD b1.To.toNat default).Ext).getD c69a.toNat default).P).N = c44a.P.N) && (decide ((((w0.D.getD b1.To.toNat default).Ext).getD c69a.toNat default).Tag = c44a.Tag) && ((((((w0.D.getD b1.To.toNat default).Ext).getD c69a.toNat default).Marked) == b1.Provider) && true))))) ?_
        refine RD.m rfl ?_
        refine RD.done rfl ?_
        rcases bool_two ((decide (((((w0.D.getD b1.To.toNat default).Ext).getD c69a.toNat default).P).A = c44a.P.A) && (decide (((((w0.D.getD b1.To.toNat default).Ext).getD c69a.toNat default).P).N = c44a.P.N) && (decide ((((w0.D.getD b1.To.toNat default).Ext).getD c69a.toNat default).Tag = c44a.Tag) && ((((((w0.D.getD b1.To.toNat default).Ext).getD c69a.toNat default).Marked) == b1.Provider) && true))))) with hb10 | hb10
        ·rw [hb10]; try simp only [hb10, cond_true, cond_false, Bool.true_and, Bool.false_and, Bool.true_or, Bool.false_or, Bool.not_true, Bool.not_false] at hR
         refine WK.condF rfl ?_
         refine WK.sr mixed ?_
         refine GX.m rfl ?_
         refine GX.m rfl ?_
         refine GX.done ?_
         refine WK.condT rfl ?_
         refine WK.regx mixed ?_
         refine GX.q (.ptr 5 2) ?_
         refine GX.q (.own 6 4 0 ((w0.D.getD b1.To.toNat default).Ext).length) ?_
         refine GX.m rfl ?_
         refine GX.q (.agg [.int .u32 c44a.P.A, .int .i64 c44a.P.N, .int .u32 c44a.Tag, .bool b1.Provider]) ?_
         refine GX.pure (v' := .eptr 6 4 c69a.toNat 0) rfl rfl rfl (core_idxoT (c := TExt.c) (L := (w0.D.getD b1.To.toNat default).Ext) (j := c69a.toNat) rfl (by omega) (by omega) (by exact Nat.le_refl _)) rfl ?_
         refine GX.step0 (heap' := [(0, .box (TWorld.c w0)), (1, .box (TBorder.c b1)), (2, .box (TPrefix.c p2)), (3, .box [.nils]), (4, .box [.int .u32 c44a.P.A, .int .i64 c44a.P.N, .int .u32 c44a.Tag, .bool b1.Provider]), (5, .box [.int .u32 ((w0.D.getD b1.To.toNat default).Tag), .ro 2 (((w0.D.getD b1.To.toNat default).In).map TPrefix.c), .own 6 4 0 ((w0.D.getD b1.To.toNat default).Ext).length]), (6, .row 4 42 ((((w0.D.getD b1.To.toNat default).Ext).set c69a.toNat (⟨c44a.P, c44a.Tag, b1.Provider⟩ : TExt)).map TExt.c))]) (next' := 7) rfl rfl (core_stoT (c := TExt.c) (L := (w0.D.getD b1.To.toNat default).Ext) (x := (((w0.D.getD b1.To.toNat default).Ext).getD c69a.toNat default)) (x' := (⟨c44a.P, c44a.Tag, b1.Provider⟩ : TExt)) rfl (getD_at (by omega)) rfl rfl rfl rfl rfl) rfl rfl ?_
         refine GX.done ?_
         refine WK.nil (QF.normal (hK7 _ ?_))
         refine WK.seq ?_
         refine WK.conv (st' := ⟨[(3, .ptr 0 0), (4, .ptr 1 0), (6, .ptr 2 0), (11, .ptr 3 0)], [(0, .box (TWorld.c w0)), (1, .box (TBorder.c b1)), (2, .box [.nils]), (3, .box [.int .u32 ((w0.D.getD b1.To.toNat default).Tag), .ro 2 (((w0.D.getD b1.To.toNat default).In).map TPrefix.c), .ro 4 ((((w0.D.getD b1.To.toNat default).Ext).set c69a.toNat (⟨c44a.P, c44a.Tag, b1.Provider⟩ : TExt)).map TExt.c)])], 4⟩) (Conv.keep [0, 1, 3, 5] [6] [3, 4, 6, 11] rfl rfl (viewE_cons rfl rfl (viewE_cons rfl rfl (viewE_cons rfl rfl (viewE_cons rfl rfl viewE_nil)))) (subH_cons rfl rfl (subH_cons rfl rfl (subH_cons rfl rfl (subH_cons rfl (viewO_box (viewGo_cons rfl (viewGo_cons rfl (viewGo_cons (view_rowM rfl rfl (by simp)) viewGo_nil)))) subH_nil)))) rfl) ?_ (by simp)
         refine WK.regx mixed ?_
         refine GX.q (.agg (TWorld.c w0)) ?_
         refine GX.q (.ptr 1 1) ?_
         refine GX.q (.int .i64 b1.To) ?_
         refine GX.q (.agg [.int .u32 ((w0.D.getD b1.To.toNat default).Tag), .ro 2 (((w0.D.getD b1.To.toNat default).In).map TPrefix.c), .ro 4 ((((w0.D.getD b1.To.toNat default).Ext).set c69a.toNat (⟨c44a.P, c44a.Tag, b1.Provider⟩ : TExt)).map TExt.c)]) ?_
         generalize hc112 : F36_redist_World_with w0 b1.To (⟨(w0.D.getD b1.To.toNat default).Tag, (w0.D.getD b1.To.toNat default).In, (((w0.D.getD b1.To.toNat default).Ext).set c69a.toNat (⟨c44a.P, c44a.Tag, b1.Provider⟩ : TExt))⟩ : TDomain) = c112 at hR
         try dsimp only at hR
         refine GX.callp (r := .agg [.ro 3 (c112.D.map TDomain.c)]) rfl rfl rfl (f36_ok w0 b1.To (⟨(w0.D.getD b1.To.toNat default).Tag, (w0.D.getD b1.To.toNat default).In, (((w0.D.getD b1.To.toNat default).Ext).set c69a.toNat (⟨c44a.P, c44a.Tag, b1.Provider⟩ : TExt))⟩ : TDomain) (by exact InvW.le1000 (by assumption)) (by omega) (by omega) _ hc112) rfl rfl ?_
         refine GX.step0 (heap' := [(0, .box (TWorld.c w0)), (1, .box (TBorder.c b1)), (2, .box (TWorld.c c112)), (3, .box [.int .u32 ((w0.D.getD b1.To.toNat default).Tag), .ro 2 (((w0.D.getD b1.To.toNat default).In).map TPrefix.c), .ro 4 ((((w0.D.getD b1.To.toNat default).Ext).set c69a.toNat (⟨c44a.P, c44a.Tag, b1.Provider⟩ : TExt)).map TExt.c)])]) (next' := 4) rfl rfl rfl rfl rfl ?_
         refine GX.m rfl ?_
         refine GX.m rfl ?_
         refine GX.done ?_
         refine WK.ret ?_
         subst hR
         exact RetQ.fr [] (.inr rfl) rfl rfl rfl rfl
        ·rw [hb10]; try simp only [hb10, cond_true, cond_false, Bool.true_and, Bool.false_and, Bool.true_or, Bool.false_or, Bool.not_true, Bool.not_false] at hR
         refine WK.condT rfl ?_
         refine WK.sr mixed ?_
         refine GX.q (.agg (TWorld.c w0)) ?_
         refine GX.step0 (heap' := [(0, .box (TWorld.c w0)), (1, .box (TBorder.c b1)), (2, .box (TPrefix.c p2)), (3, .box (TWorld.c w0)), (4, .box [.int .u32 c44a.P.A, .int .i64 c44a.P.N, .int .u32 c44a.Tag, .bool b1.Provider]), (5, .box [.int .u32 ((w0.D.getD b1.To.toNat default).Tag), .ro 2 (((w0.D.getD b1.To.toNat default).In).map TPrefix.c), .own 6 4 0 ((w0.D.getD b1.To.toNat default).Ext).length]), (6, .row 4 42 (((w0.D.getD b1.To.toNat default).Ext).map TExt.c))]) (next' := 7) rfl rfl rfl rfl rfl ?_
         refine GX.m rfl ?_
         refine GX.m rfl ?_
         refine GX.done ?_
         refine WK.ret ?_
         refine QF.ret ?_
         subst hR
         exact RetQ.fr [] (.inr rfl) rfl rfl rfl rfl
   ·rw [hb3]; try simp only [hb3, cond_true, cond_false, Bool.true_and, Bool.false_and, Bool.true_or, Bool.false_or, Bool.not_true, Bool.not_false] at hR
    refine GX.skip rfl rfl ?_
    refine GX.skip rfl rfl ?_
    refine GX.skip rfl rfl ?_
    refine GX.q (.bool true) ?_
    refine GX.done ?_
    refine WK.condT rfl ?_
    refine WK.sr mixed ?_
    refine GX.q (.agg (TWorld.c w0)) ?_
    refine GX.step0 (heap' := [(0, .box (TWorld.c w0)), (1, .box (TBorder.c b1)), (2, .box (TPrefix.c p2)), (3, .box (TWorld.c w0))]) (next' := 4) rfl rfl rfl rfl rfl ?_
    refine GX.m rfl ?_
    refine GX.m rfl ?_
    refine GX.done ?_
    refine WK.ret ?_
    subst hR
    exact RetQ.fr [] (.inr rfl) rfl rfl rfl rfl

theorem f8_ok  (R : Bool) (hR : F8_crossroadslaw28_alive = R) : FnOk Try.prog 8 [] [] 0 (.bool R) [] 0 := by
 refine FnOk.wk i8 rfl rfl ?_
 unfold F8_crossroadslaw28_alive at hR
 change WK _ _ _ [ac8] _ ⟨[], [], 0⟩
 unfold ac8
 refine WK.sr mixed ?_
 refine GX.m rfl ?_
 refine GX.done ?_
 refine WK.seq ?_
 refine WK.drawn mixed ?_
 refine RD.bsro (es := (([1, 2] : List Int)).map c_u32) rfl rfl rfl rfl ?_
 generalize hc12 : F10_redist_New ([1, 2] : List Int) = c12 at hR
 have hpo0_c12 := post_i10 ([1, 2] : List Int); rw [hc12] at hpo0_c12
 obtain ⟨c12a, c12b⟩ := c12; try dsimp only at hR; try dsimp only at hpo0_c12
 refine RD.callp (r := .tup [.agg [.ro 3 (c12a.D.map TDomain.c)], .int .i64 c12b]) rfl rfl rfl (f10_ok ([1, 2] : List Int) (by ((try simp only [List.length_append, List.length_cons, List.length_nil, List.length_map, decide_eq_true_eq, decide_eq_false_iff_not] at *) <;> omega)) _ hc12) rfl rfl ?_
 refine RD.pure (v' := .tup [.agg [.ro 3 (c12a.D.map TDomain.c)], .int .i64 c12b]) rfl rfl rfl rfl rfl ?_
 refine RD.pure (v' := .agg [.ro 3 (c12a.D.map TDomain.c)]) rfl rfl rfl rfl rfl ?_
 refine RD.pure (v' := .int .i64 c12b) rfl rfl rfl rfl rfl ?_
 refine RD.step (v' := .ptr 0 0) (heap' := [(0, .box [.nils])]) (next' := 1) rfl rfl rfl rfl rfl rfl rfl ?_
 refine RD.step0 (heap' := [(0, .box (TWorld.c c12a))]) (next' := 1) rfl rfl rfl rfl rfl ?_
 refine RD.pure (v' := .int .i64 c12b) rfl rfl rfl rfl rfl ?_
 refine RD.done0 ?_
 refine WK.sr mixed ?_
 refine GX.q (.agg (TWorld.c c12a)) ?_
 refine GX.q (.agg [.int .u32 0, .int .i64 0]) ?_
 generalize hc18 : F15_redist_Own c12a 0 (⟨0, 0⟩ : TPrefix) = c18 at hR
 have hpo0_c18 := post_i15 c12a 0 (⟨0, 0⟩ : TPrefix) (by omega); rw [hc18] at hpo0_c18
 obtain ⟨c18a, c18b⟩ := c18; try dsimp only at hR; try dsimp only at hpo0_c18
 refine GX.callp (r := .tup [.agg [.ro 3 (c18a.D.map TDomain.c)], .int .i64 c18b]) rfl rfl rfl (f15_ok c12a 0 (⟨0, 0⟩ : TPrefix) (by omega) _ hc18) rfl rfl ?_
 refine GX.m rfl ?_
 refine GX.q (.agg [.ro 3 (c18a.D.map TDomain.c)]) ?_
 refine GX.q (.int .i64 c18b) ?_
 refine GX.step0 (heap' := [(0, .box (TWorld.c c18a))]) (next' := 1) rfl rfl rfl rfl rfl ?_
 refine GX.m rfl ?_
 refine GX.done ?_
 refine WK.sr mixed ?_
 refine GX.q (.agg (TWorld.c c18a)) ?_
 refine GX.q (.agg [.int .i64 0, .int .i64 1, .bool false]) ?_
 refine GX.q (.agg [.int .u32 0, .int .i64 0]) ?_
 generalize hc25 : F17_redist_Tell c18a (⟨0, 1, false⟩ : TBorder) (⟨0, 0⟩ : TPrefix) = c25 at hR
 have hpo0_c25 := post_i17 c18a (⟨0, 1, false⟩ : TBorder) (⟨0, 0⟩ : TPrefix) (by omega); rw [hc25] at hpo0_c25
 obtain ⟨c25a, c25b, c25c⟩ := c25; try dsimp only at hR; try dsimp only at hpo0_c25
 refine GX.callp (r := .tup [.agg [.ro 3 (c25a.D.map TDomain.c)], .bool c25b, .int .i64 c25c]) rfl rfl rfl (f17_ok c18a (⟨0, 1, false⟩ : TBorder) (⟨0, 0⟩ : TPrefix) (by omega) _ hc25) rfl rfl ?_
 refine GX.m rfl ?_
 refine GX.q (.agg [.ro 3 (c25a.D.map TDomain.c)]) ?_
 refine GX.q (.bool c25b) ?_
 refine GX.q (.int .i64 c25c) ?_
 refine GX.step0 (heap' := [(0, .box (TWorld.c c25a))]) (next' := 1) rfl rfl rfl rfl rfl ?_
 refine GX.m rfl ?_
 refine GX.m rfl ?_
 refine GX.done ?_
 refine WK.sr mixed ?_
 refine GX.q (.agg (TWorld.c c25a)) ?_
 refine GX.q (.agg [.int .i64 1, .int .i64 0, .bool false]) ?_
 refine GX.q (.agg [.int .u32 0, .int .i64 0]) ?_
 generalize hc33 : F17_redist_Tell c25a (⟨1, 0, false⟩ : TBorder) (⟨0, 0⟩ : TPrefix) = c33 at hR
 have hpo0_c33 := post_i17 c25a (⟨1, 0, false⟩ : TBorder) (⟨0, 0⟩ : TPrefix) (by omega); rw [hc33] at hpo0_c33
 obtain ⟨c33a, c33b, c33c⟩ := c33; try dsimp only at hR; try dsimp only at hpo0_c33
 refine GX.callp (r := .tup [.agg [.ro 3 (c33a.D.map TDomain.c)], .bool c33b, .int .i64 c33c]) rfl rfl rfl (f17_ok c25a (⟨1, 0, false⟩ : TBorder) (⟨0, 0⟩ : TPrefix) (by omega) _ hc33) rfl rfl ?_
 refine GX.m rfl ?_
 refine GX.q (.agg [.ro 3 (c33a.D.map TDomain.c)]) ?_
 refine GX.q (.bool c33b) ?_
 refine GX.q (.int .i64 c33c) ?_
 refine GX.step0 (heap' := [(0, .box (TWorld.c c33a))]) (next' := 1) rfl rfl rfl rfl rfl ?_
 refine GX.m rfl ?_
 refine GX.m rfl ?_
 refine GX.done ?_
 refine WK.sr mixed ?_
 refine GX.q (.agg (TWorld.c c33a)) ?_
 refine GX.q (.agg [.int .u32 0, .int .i64 0]) ?_
 generalize hc40 : F21_redist_Has c33a 1 (⟨0, 0⟩ : TPrefix) = c40 at hR
 obtain ⟨c40a, c40b⟩ := c40; try dsimp only at hR
 refine GX.callp (r := .tup [.agg [.int .u32 c40a.P.A, .int .i64 c40a.P.N, .int .u32 c40a.Tag, .bool c40a.Marked], .bool c40b]) rfl rfl rfl (f21_ok c33a 1 (⟨0, 0⟩ : TPrefix) (by omega) _ hc40) rfl rfl ?_
 refine GX.m rfl ?_
 refine GX.q (.agg [.int .u32 c40a.P.A, .int .i64 c40a.P.N, .int .u32 c40a.Tag, .bool c40a.Marked]) ?_
 refine GX.q (.bool c40b) ?_
 refine GX.step (v' := .ptr 1 0) (heap' := [(0, .box (TWorld.c c33a)), (1, .box [.int .u32 0, .int .i64 0, .int .u32 0, .bool false])]) (next' := 2) rfl rfl rfl rfl rfl rfl rfl ?_
 refine GX.step0 (heap' := [(0, .box (TWorld.c c33a)), (1, .box (TExt.c c40a))]) (next' := 2) rfl rfl rfl rfl rfl ?_
 refine GX.m rfl ?_
 refine GX.done ?_
 refine WK.sr mixed ?_
 refine GX.m rfl ?_
 refine GX.q (.bool (decide (c12b = 0))) ?_
 refine GX.m rfl ?_
 rcases bool_two (decide (c12b = 0)) with hb1 | hb1
 ·rw [hb1]; try simp only [hb1, cond_true, cond_false, Bool.true_and, Bool.false_and, Bool.true_or, Bool.false_or, Bool.not_true, Bool.not_false] at hR
  refine GX.skip rfl rfl ?_
  refine GX.skip rfl rfl ?_
  refine GX.q (.bool false) ?_
  refine GX.m rfl ?_
  refine GX.skip rfl rfl ?_
  refine GX.q (.bool false) ?_
  refine GX.m rfl ?_
  refine GX.skip rfl rfl ?_
  refine GX.skip rfl rfl ?_
  refine GX.q (.bool false) ?_
  refine GX.m rfl ?_
  refine GX.skip rfl rfl ?_
  refine GX.q (.bool false) ?_
  refine GX.m rfl ?_
  refine GX.skip rfl rfl ?_
  refine GX.skip rfl rfl ?_
  refine GX.skip rfl rfl ?_
  refine GX.q (.bool false) ?_
  refine GX.m rfl ?_
  refine GX.done ?_
  refine WK.ret ?_
  subst hR
  exact RetQ.fr [] (.inr rfl) rfl rfl rfl rfl
 ·rw [hb1]; try simp only [hb1, cond_true, cond_false, Bool.true_and, Bool.false_and, Bool.true_or, Bool.false_or, Bool.not_true, Bool.not_false] at hR
  refine GX.m rfl ?_
  refine GX.q (.bool (decide (c18b = 0))) ?_
  refine GX.q (.bool (decide (c18b = 0))) ?_
  refine GX.m rfl ?_
  rcases bool_two (decide (c18b = 0)) with hb2 | hb2
  ·rw [hb2]; try simp only [hb2, cond_true, cond_false, Bool.true_and, Bool.false_and, Bool.true_or, Bool.false_or, Bool.not_true, Bool.not_false] at hR
   refine GX.skip rfl rfl ?_
   refine GX.q (.bool false) ?_
   refine GX.m rfl ?_
   refine GX.skip rfl rfl ?_
   refine GX.skip rfl rfl ?_
   refine GX.q (.bool false) ?_
   refine GX.m rfl ?_
   refine GX.skip rfl rfl ?_
   refine GX.q (.bool false) ?_
   refine GX.m rfl ?_
   refine GX.skip rfl rfl ?_
   refine GX.skip rfl rfl ?_
   refine GX.skip rfl rfl ?_
   refine GX.q (.bool false) ?_
   refine GX.m rfl ?_
   refine GX.done ?_
   refine WK.ret ?_
   subst hR
   exact RetQ.fr [] (.inr rfl) rfl rfl rfl rfl
  ·rw [hb2]; try simp only [hb2, cond_true, cond_false, Bool.true_and, Bool.false_and, Bool.true_or, Bool.false_or, Bool.not_true, Bool.not_false] at hR
   refine GX.m rfl ?_
   refine GX.q (.bool c25b) ?_
   refine GX.m rfl ?_
   rcases bool_two (c25b) with hb3 | hb3
   ·rw [hb3]; try simp only [hb3, cond_true, cond_false, Bool.true_and, Bool.false_and, Bool.true_or, Bool.false_or, Bool.not_true, Bool.not_false] at hR
    refine GX.skip rfl rfl ?_
    refine GX.skip rfl rfl ?_
    refine GX.q (.bool false) ?_
    refine GX.m rfl ?_
    refine GX.skip rfl rfl ?_
    refine GX.q (.bool false) ?_
    refine GX.m rfl ?_
    refine GX.skip rfl rfl ?_
    refine GX.skip rfl rfl ?_
    refine GX.skip rfl rfl ?_
    refine GX.q (.bool false) ?_
    refine GX.m rfl ?_
    refine GX.done ?_
    refine WK.ret ?_
    subst hR
    exact RetQ.fr [] (.inr rfl) rfl rfl rfl rfl
   ·rw [hb3]; try simp only [hb3, cond_true, cond_false, Bool.true_and, Bool.false_and, Bool.true_or, Bool.false_or, Bool.not_true, Bool.not_false] at hR
    refine GX.m rfl ?_
    refine GX.q (.bool (!c33b)) ?_
    refine GX.q (.bool (!c33b)) ?_
    refine GX.m rfl ?_
    rcases bool_two (c33b) with hb4 | hb4
    ·rw [hb4]; try simp only [hb4, cond_true, cond_false, Bool.true_and, Bool.false_and, Bool.true_or, Bool.false_or, Bool.not_true, Bool.not_false] at hR
     refine GX.m rfl ?_
     refine GX.q (.bool c40b) ?_
     refine GX.m rfl ?_
     rcases bool_two (c40b) with hb5 | hb5
     ·rw [hb5]; try simp only [hb5, cond_true, cond_false, Bool.true_and, Bool.false_and, Bool.true_or, Bool.false_or, Bool.not_true, Bool.not_false] at hR
      refine GX.skip rfl rfl ?_
      refine GX.skip rfl rfl ?_
      refine GX.skip rfl rfl ?_
      refine GX.q (.bool false) ?_
      refine GX.m rfl ?_
      refine GX.done ?_
      refine WK.ret ?_
      subst hR
      exact RetQ.fr [] (.inr rfl) rfl rfl rfl rfl
     ·rw [hb5]; try simp only [hb5, cond_true, cond_false, Bool.true_and, Bool.false_and, Bool.true_or, Bool.false_or, Bool.not_true, Bool.not_false] at hR
      refine GX.q (.ptr 1 2) ?_
      refine GX.q (.int .u32 c40a.Tag) ?_
      refine GX.q (.bool (decide (c40a.Tag = 1))) ?_
      refine GX.q (.bool (decide (c40a.Tag = 1))) ?_
      refine GX.m rfl ?_
      refine GX.done ?_
      refine WK.ret ?_
      subst hR
      exact RetQ.fr [] (.inr rfl) rfl rfl rfl rfl
    ·rw [hb4]; try simp only [hb4, cond_true, cond_false, Bool.true_and, Bool.false_and, Bool.true_or, Bool.false_or, Bool.not_true, Bool.not_false] at hR
     refine GX.skip rfl rfl ?_
     refine GX.q (.bool false) ?_
     refine GX.m rfl ?_
     refine GX.skip rfl rfl ?_
     refine GX.skip rfl rfl ?_
     refine GX.skip rfl rfl ?_
     refine GX.q (.bool false) ?_
     refine GX.m rfl ?_
     refine GX.done ?_
     refine WK.ret ?_
     subst hR
     exact RetQ.fr [] (.inr rfl) rfl rfl rfl rfl

theorem f19_ok (w0 : TWorld) (d1 : Int) (p2 : TPrefix) (hp0 : InvW w0) (R : TWorld × Bool) (hR : F19_redist_Cease w0 d1 p2 = R) : FnOk Try.prog 19 [.agg (TWorld.c w0), .int .i64 d1, .agg (TPrefix.c p2)] [] 0 (.tup [.agg (TWorld.c R.1), .bool R.2]) [] 0 := by
 refine FnOk.wk i19 rfl rfl ?_
 unfold F19_redist_Cease at hR
 change WK _ _ _ [ac19] _ ⟨[(0, .agg (TWorld.c w0)), (1, .int .i64 d1), (2, .agg (TPrefix.c p2))], [], 0⟩
 unfold ac19
 refine WK.sr mixed ?_
 refine GX.step (v' := .ptr 0 0) (heap' := [(0, .box (TWorld.c w0))]) (next' := 1) rfl rfl rfl rfl rfl rfl rfl ?_
 refine GX.step (v' := .ptr 1 0) (heap' := [(0, .box (TWorld.c w0)), (1, .box (TPrefix.c p2))]) (next' := 2) rfl rfl rfl rfl rfl rfl rfl ?_
 refine GX.step (v' := .ptr 2 0) (heap' := [(0, .box (TWorld.c w0)), (1, .box (TPrefix.c p2)), (2, .box [.nils])]) (next' := 3) rfl rfl rfl rfl rfl rfl rfl ?_
 refine GX.m rfl ?_
 refine GX.done ?_
 refine WK.seq ?_
 refine WK.sr mixed ?_
 refine GX.q (.agg (TWorld.c w0)) ?_
 refine GX.m rfl ?_
 generalize hc12 : F30_redist_World_is w0 d1 = c12 at hR
 have hpo0_c12 := post_is w0 d1; rw [hc12] at hpo0_c12
 try dsimp only at hR
 refine GX.callp (r := .bool c12) rfl rfl rfl (f30_ok w0 d1 _ hc12) rfl rfl ?_
 refine GX.q (.bool (!c12)) ?_
 refine GX.done ?_
 rcases bool_two (c12) with hb1 | hb1
 ·rw [hb1]; try simp only [hb1, cond_true, cond_false, Bool.true_and, Bool.false_and, Bool.true_or, Bool.false_or, Bool.not_true, Bool.not_false] at hR
  refine WK.condT rfl ?_
  refine WK.sr mixed ?_
  refine GX.q (.agg (TWorld.c w0)) ?_
  refine GX.step0 (heap' := [(0, .box (TWorld.c w0)), (1, .box (TPrefix.c p2)), (2, .box (TWorld.c w0))]) (next' := 3) rfl rfl rfl rfl rfl ?_
  refine GX.m rfl ?_
  refine GX.done ?_
  refine WK.ret ?_
  subst hR
  exact RetQ.fr [] (.inr rfl) rfl rfl rfl rfl
 ·rw [hb1]; try simp only [hb1, cond_true, cond_false, Bool.true_and, Bool.false_and, Bool.true_or, Bool.false_or, Bool.not_true, Bool.not_false] at hR
  try have hq_hpo0_c12 := hpo0_c12 hb1
  refine WK.condF rfl ?_
  refine WK.skip ?_
  refine WK.seq ?_
  refine WK.drawn mixed ?_
  refine RD.q (.ptr 0 0) ?_
  refine RD.q (.ro 3 (w0.D.map TDomain.c)) ?_
  refine RD.m rfl ?_
  refine RD.idxT (c := TDomain.c) (x := (w0.D.getD d1.toNat default)) rfl rfl rfl (by omega) (getD_at (by omega)) ?_
  refine RD.q (.agg [.int .u32 ((w0.D.getD d1.toNat default).Tag), .ro 2 (((w0.D.getD d1.toNat default).In).map TPrefix.c), .ro 4 (((w0.D.getD d1.toNat default).Ext).map TExt.c)]) ?_
  refine RD.q (.agg (TPrefix.c p2)) ?_
  generalize hc22 : F32_redist_Domain_without (w0.D.getD d1.toNat default) p2 = c22 at hR
  have hpo0_c22 := post_wo (w0.D.getD d1.toNat default) p2 (by exact InvW.get (by assumption) _); rw [hc22] at hpo0_c22
  have hpo1_c22 := post_woI (w0.D.getD d1.toNat default) p2 (by exact InvW.get (by assumption) _); rw [hc22] at hpo1_c22
  obtain ⟨c22a, c22b⟩ := c22; try dsimp only at hR; try dsimp only at hpo0_c22; try dsimp only at hpo1_c22
  refine RD.callp (r := .tup [.agg [.int .u32 c22a.Tag, .ro 2 (c22a.In.map TPrefix.c), .ro 4 (c22a.Ext.map TExt.c)], .bool c22b]) rfl rfl rfl (f32_ok (w0.D.getD d1.toNat default) p2 (by exact InvW.get (by assumption) _) _ hc22) rfl rfl ?_
  refine RD.m rfl ?_
  refine RD.q (.agg [.int .u32 c22a.Tag, .ro 2 (c22a.In.map TPrefix.c), .ro 4 (c22a.Ext.map TExt.c)]) ?_
  refine RD.q (.bool c22b) ?_
  refine RD.step (v' := .ptr 3 0) (heap' := [(0, .box (TWorld.c w0)), (1, .box (TPrefix.c p2)), (2, .box [.nils]), (3, .box [.int .u32 0, .nils, .nils])]) (next' := 4) rfl rfl rfl rfl rfl rfl rfl ?_
  refine RD.step0 (heap' := [(0, .box (TWorld.c w0)), (1, .box (TPrefix.c p2)), (2, .box [.nils]), (3, .box (TDomain.c c22a))]) (next' := 4) rfl rfl rfl rfl rfl ?_
  refine RD.m rfl ?_
  refine RD.done rfl ?_
  refine WK.sr mixed ?_
  refine GX.q (.agg (TWorld.c w0)) ?_
  refine GX.m rfl ?_
  refine GX.q (.agg (TDomain.c c22a)) ?_
  generalize hc28 : F36_redist_World_with w0 d1 c22a = c28 at hR
  try dsimp only at hR
  refine GX.callp (r := .agg [.ro 3 (c28.D.map TDomain.c)]) rfl rfl rfl (f36_ok w0 d1 c22a (by exact InvW.le1000 (by assumption)) (by omega) (by omega) _ hc28) rfl rfl ?_
  refine GX.m rfl ?_
  refine GX.step0 (heap' := [(0, .box (TWorld.c w0)), (1, .box (TPrefix.c p2)), (2, .box (TWorld.c c28)), (3, .box (TDomain.c c22a))]) (next' := 4) rfl rfl rfl rfl rfl ?_
  refine GX.m rfl ?_
  refine GX.done ?_
  refine WK.ret ?_
  subst hR
  exact RetQ.fr [] (.inr rfl) rfl rfl rfl rfl

theorem f24_ok (w0 : TWorld) (l1 : List TAct) (hp0 : InvW w0) (R : TWorld) (hR : F24_redist_Run w0 l1 = R) : FnOk Try.prog 24 [.agg (TWorld.c w0), .ro 6 (l1.map TAct.c)] [] 0 (.agg (TWorld.c R)) [] 0 := by
 refine FnOk.wk i24 rfl rfl ?_
 unfold F24_redist_Run at hR
 change WK _ _ _ [ac24] _ ⟨[(0, .agg (TWorld.c w0)), (1, .ro 6 (l1.map TAct.c))], [], 0⟩
 unfold ac24
 refine WK.sr mixed ?_
 refine GX.step (v' := .ptr 0 0) (heap' := [(0, .box (TWorld.c w0))]) (next' := 1) rfl rfl rfl rfl rfl rfl rfl ?_
 refine GX.step (v' := .ptr 1 0) (heap' := [(0, .box (TWorld.c w0)), (1, .box [.nils])]) (next' := 2) rfl rfl rfl rfl rfl rfl rfl ?_
 refine GX.done ?_
 refine WK.seq ?_
 refine WK.sr mixed ?_
 refine GX.m rfl ?_
 refine GX.pure (v' := .int .i64 (l1.length : Int)) rfl rfl rfl rfl (len_map _ _) ?_
 refine GX.m rfl ?_
 refine GX.done ?_
 refine WK.len (t := 1) rfl (by simp) (fun hlen_8 => ?_)
 rw [List.length_map] at hlen_8
 generalize hZ_8 : F24_redist_Run_l1 w0 l1 = Z_8 at hR
 refine WK.forK (fun k s => ∃ (i9 : Nat) (w2 : TWorld), i9 ≤ l1.length ∧ k = l1.length - i9 ∧ InvW w2 ∧ F24_redist_Run_l1 w2 (l1.drop i9) = Z_8 ∧ s = ⟨[(2, .ptr 0 0), (4, .ptr 1 0), (7, .ro 6 (l1.map TAct.c)), (8, .int .i64 (l1.length : Int)), (9, .int .i64 (i9 : Int))], [(0, .box (TWorld.c w2)), (1, .box [.nils])], 2⟩) l1.length ⟨⟨[(2, .ptr 0 0), (4, .ptr 1 0), (7, .ro 6 (l1.map TAct.c)), (8, .int .i64 (l1.length : Int)), (9, .int .i64 (0 : Int))], [(0, .box (TWorld.c w0)), (1, .box [.nils])], 2⟩, Conv.keep [0, 1] [] [2, 4, 7, 8, 9] rfl rfl (viewE_cons rfl rfl (viewE_cons rfl rfl (viewE_cons rfl rfl (viewE_cons rfl rfl (viewE_cons rfl rfl viewE_nil))))) rfl rfl, 0, w0, (by omega), rfl, (by omega), hZ_8, rfl⟩ ?_
 rintro _ _ ⟨i9, w2, hi_8, rfl, hinv8_c0, hL_8, rfl⟩ again_8 out_8 Q_8 hagain_8 hout_8 hQ_8
 refine WK.sr mixed ?_
 refine GX.q (.bool (decide ((i9 : Int) < (l1.length : Int)))) ?_
 refine GX.done ?_
 refine WK.seq ?_
 rcases bool_two (decide ((i9 : Int) < (l1.length : Int))) with hb9 | hb9
 ·rw [hb9]
  rw [drop_end hb9, F24_redist_Run_l1] at hL_8
  refine WK.condF rfl ?_
  refine WK.exit ?_
  refine QF.exit (hout_8 _ ?_)
  subst hL_8
  try dsimp only [cond_true, cond_false] at hR
  refine WK.sr mixed ?_
  refine GX.q (.agg (TWorld.c w2)) ?_
  refine GX.step0 (heap' := [(0, .box (TWorld.c w2)), (1, .box (TWorld.c w2))]) (next' := 2) rfl rfl rfl rfl rfl ?_
  refine GX.done ?_
  refine WK.ret ?_
  subst hR
  exact RetQ.fr [] (.inr rfl) rfl rfl rfl rfl
 ·rw [hb9]
  obtain ⟨x9, hx8, hd8, hlt8⟩ := drop_more hb9
  rw [hd8, F24_redist_Run_l1] at hL_8
  refine WK.condT rfl ?_
  refine WK.skip ?_
  refine WK.seq ?_
  refine WK.blockK (fun _ hK10 => ?_)
  refine WK.sr mixed ?_
  refine GX.idxT (c := TAct.c) (x := x9) rfl rfl rfl (Int.natCast_nonneg _) hx8 ?_
  refine GX.q (.agg (TAct.c x9)) ?_
  refine GX.step (v' := .ptr 2 0) (heap' := [(0, .box (TWorld.c w2)), (1, .box [.nils]), (2, .box [.int .i64 0, .int .i64 0, .int .i64 0, .bool false, .int .u32 0, .int .i64 0])]) (next' := 3) rfl rfl rfl rfl rfl rfl rfl ?_
  refine GX.step0 (heap' := [(0, .box (TWorld.c w2)), (1, .box [.nils]), (2, .box (TAct.c x9))]) (next' := 3) rfl rfl rfl rfl rfl ?_
  refine GX.done ?_
  refine WK.sr mixed ?_
  refine GX.q (.ptr 2 0) ?_
  refine GX.q (.int .i64 x9.Kind) ?_
  refine GX.done ?_
  refine WK.blockK (fun _ hK11 => ?_)
  refine WK.sr mixed ?_
  refine GX.q (.bool (decide (x9.Kind = 1))) ?_
  refine GX.m rfl ?_
  refine GX.done ?_
  rcases bool_two (decide (x9.Kind = 1)) with hb12 | hb12
  ·rw [hb12]; try simp only [hb12, cond_true, cond_false, Bool.true_and, Bool.false_and, Bool.true_or, Bool.false_or, Bool.not_true, Bool.not_false] at hL_8
   refine WK.condF rfl ?_
   refine WK.sr mixed ?_
   refine GX.q (.bool (decide (x9.Kind = 2))) ?_
   refine GX.m rfl ?_
   refine GX.done ?_
   rcases bool_two (decide (x9.Kind = 2)) with hb13 | hb13
   ·rw [hb13]; try simp only [hb13, cond_true, cond_false, Bool.true_and, Bool.false_and, Bool.true_or, Bool.false_or, Bool.not_true, Bool.not_false] at hL_8
    refine WK.condF rfl ?_
    refine WK.sr mixed ?_
    refine GX.q (.bool (decide (x9.Kind = 3))) ?_
    refine GX.m rfl ?_
    refine GX.done ?_
    rcases bool_two (decide (x9.Kind = 3)) with hb14 | hb14
    ·rw [hb14]; try simp only [hb14, cond_true, cond_false, Bool.true_and, Bool.false_and, Bool.true_or, Bool.false_or, Bool.not_true, Bool.not_false] at hL_8
     refine WK.condF rfl ?_
     refine WK.skip ?_
     refine WK.nil (QF.normal (hK11 _ ?_))
     refine WK.nil (QF.normal (hK10 _ ?_))
     refine WK.regx mixed ?_
     refine GX.pure (v' := .int .i64 ((i9 + 1 : Nat) : Int)) rfl rfl rfl rfl (congrArg (PVal.int .i64) (wrap_up hlt8 hlen_8)) ?_
     refine GX.m rfl ?_
     refine GX.done ?_
     refine WK.nil (QF.normal ?_)
     exact hagain_8 _ (l1.length - (i9 + 1)) ⟨[(2, .ptr 0 0), (4, .ptr 1 0), (7, .ro 6 (l1.map TAct.c)), (8, .int .i64 (l1.length : Int)), (9, .int .i64 ((i9 + 1) : Int))], [(0, .box (TWorld.c w2)), (1, .box [.nils])], 2⟩ (by omega) (Conv.keep [0, 1] [] [2, 4, 7, 8, 9] rfl rfl (viewE_cons rfl rfl (viewE_cons rfl rfl (viewE_cons rfl rfl (viewE_cons rfl rfl (viewE_cons rfl rfl viewE_nil))))) rfl rfl) ⟨i9 + 1, w2, (by omega), rfl, (by omega), hL_8, rfl⟩
    ·rw [hb14]; try simp only [hb14, cond_true, cond_false, Bool.true_and, Bool.false_and, Bool.true_or, Bool.false_or, Bool.not_true, Bool.not_false] at hL_8
     refine WK.condT rfl ?_
     refine WK.regx mixed ?_
     refine GX.q (.agg (TWorld.c w2)) ?_
     refine GX.q (.ptr 2 1) ?_
     refine GX.q (.ptr 2 1) ?_
     refine GX.q (.int .i64 x9.B.From) ?_
     refine GX.q (.ptr 2 4) ?_
     refine GX.q (.agg [.int .u32 x9.P.A, .int .i64 x9.P.N]) ?_
     generalize hc48 : F19_redist_Cease w2 x9.B.From x9.P = c48 at hL_8
     have hpo0_c48 := post_i19 w2 x9.B.From x9.P (by omega); rw [hc48] at hpo0_c48
     obtain ⟨c48a, c48b⟩ := c48; try dsimp only at hL_8; try dsimp only at hpo0_c48
     refine GX.callp (r := .tup [.agg [.ro 3 (c48a.D.map TDomain.c)], .bool c48b]) rfl rfl rfl (f19_ok w2 x9.B.From x9.P (by omega) _ hc48) rfl rfl ?_
     refine GX.m rfl ?_
     refine GX.q (.agg [.ro 3 (c48a.D.map TDomain.c)]) ?_
     refine GX.q (.bool c48b) ?_
     refine GX.step0 (heap' := [(0, .box (TWorld.c c48a)), (1, .box [.nils]), (2, .box (TAct.c x9))]) (next' := 3) rfl rfl rfl rfl rfl ?_
     refine GX.done ?_
     refine WK.nil (QF.normal (hK11 _ ?_))
     refine WK.nil (QF.normal (hK10 _ ?_))
     refine WK.regx mixed ?_
     refine GX.pure (v' := .int .i64 ((i9 + 1 : Nat) : Int)) rfl rfl rfl rfl (congrArg (PVal.int .i64) (wrap_up hlt8 hlen_8)) ?_
     refine GX.m rfl ?_
     refine GX.done ?_
     refine WK.nil (QF.normal ?_)
     exact hagain_8 _ (l1.length - (i9 + 1)) ⟨[(2, .ptr 0 0), (4, .ptr 1 0), (7, .ro 6 (l1.map TAct.c)), (8, .int .i64 (l1.length : Int)), (9, .int .i64 ((i9 + 1) : Int))], [(0, .box (TWorld.c c48a)), (1, .box [.nils])], 2⟩ (by omega) (Conv.keep [0, 1] [] [2, 4, 7, 8, 9] rfl rfl (viewE_cons rfl rfl (viewE_cons rfl rfl (viewE_cons rfl rfl (viewE_cons rfl rfl (viewE_cons rfl rfl viewE_nil))))) rfl rfl) ⟨i9 + 1, c48a, (by omega), rfl, (by omega), hL_8, rfl⟩
   ·rw [hb13]; try simp only [hb13, cond_true, cond_false, Bool.true_and, Bool.false_and, Bool.true_or, Bool.false_or, Bool.not_true, Bool.not_false] at hL_8
    refine WK.condT rfl ?_
    refine WK.regx mixed ?_
    refine GX.q (.agg (TWorld.c w2)) ?_
    refine GX.q (.ptr 2 1) ?_
    refine GX.q (.agg [.int .i64 x9.B.From, .int .i64 x9.B.To, .bool x9.B.Provider]) ?_
    refine GX.q (.ptr 2 4) ?_
    refine GX.q (.agg [.int .u32 x9.P.A, .int .i64 x9.P.N]) ?_
    generalize hc35 : F17_redist_Tell w2 x9.B x9.P = c35 at hL_8
    have hpo0_c35 := post_i17 w2 x9.B x9.P (by omega); rw [hc35] at hpo0_c35
    obtain ⟨c35a, c35b, c35c⟩ := c35; try dsimp only at hL_8; try dsimp only at hpo0_c35
    refine GX.callp (r := .tup [.agg [.ro 3 (c35a.D.map TDomain.c)], .bool c35b, .int .i64 c35c]) rfl rfl rfl (f17_ok w2 x9.B x9.P (by omega) _ hc35) rfl rfl ?_
    refine GX.m rfl ?_
    refine GX.q (.agg [.ro 3 (c35a.D.map TDomain.c)]) ?_
    refine GX.q (.bool c35b) ?_
    refine GX.q (.int .i64 c35c) ?_
    refine GX.step0 (heap' := [(0, .box (TWorld.c c35a)), (1, .box [.nils]), (2, .box (TAct.c x9))]) (next' := 3) rfl rfl rfl rfl rfl ?_
    refine GX.done ?_
    refine WK.nil (QF.normal (hK11 _ ?_))
    refine WK.nil (QF.normal (hK10 _ ?_))
    refine WK.regx mixed ?_
    refine GX.pure (v' := .int .i64 ((i9 + 1 : Nat) : Int)) rfl rfl rfl rfl (congrArg (PVal.int .i64) (wrap_up hlt8 hlen_8)) ?_
    refine GX.m rfl ?_
    refine GX.done ?_
    refine WK.nil (QF.normal ?_)
    exact hagain_8 _ (l1.length - (i9 + 1)) ⟨[(2, .ptr 0 0), (4, .ptr 1 0), (7, .ro 6 (l1.map TAct.c)), (8, .int .i64 (l1.length : Int)), (9, .int .i64 ((i9 + 1) : Int))], [(0, .box (TWorld.c c35a)), (1, .box [.nils])], 2⟩ (by omega) (Conv.keep [0, 1] [] [2, 4, 7, 8, 9] rfl rfl (viewE_cons rfl rfl (viewE_cons rfl rfl (viewE_cons rfl rfl (viewE_cons rfl rfl (viewE_cons rfl rfl viewE_nil))))) rfl rfl) ⟨i9 + 1, c35a, (by omega), rfl, (by omega), hL_8, rfl⟩
  ·rw [hb12]; try simp only [hb12, cond_true, cond_false, Bool.true_and, Bool.false_and, Bool.true_or, Bool.false_or, Bool.not_true, Bool.not_false] at hL_8
   refine WK.condT rfl ?_
   refine WK.regx mixed ?_
   refine GX.q (.agg (TWorld.c w2)) ?_
   refine GX.q (.ptr 2 1) ?_
   refine GX.q (.ptr 2 1) ?_
   refine GX.q (.int .i64 x9.B.From) ?_
   refine GX.q (.ptr 2 4) ?_
   refine GX.q (.agg [.int .u32 x9.P.A, .int .i64 x9.P.N]) ?_
   generalize hc24 : F15_redist_Own w2 x9.B.From x9.P = c24 at hL_8
   have hpo0_c24 := post_i15 w2 x9.B.From x9.P (by omega); rw [hc24] at hpo0_c24
   obtain ⟨c24a, c24b⟩ := c24; try dsimp only at hL_8; try dsimp only at hpo0_c24
   refine GX.callp (r := .tup [.agg [.ro 3 (c24a.D.map TDomain.c)], .int .i64 c24b]) rfl rfl rfl (f15_ok w2 x9.B.From x9.P (by omega) _ hc24) rfl rfl ?_
   refine GX.m rfl ?_
   refine GX.q (.agg [.ro 3 (c24a.D.map TDomain.c)]) ?_
   refine GX.q (.int .i64 c24b) ?_
   refine GX.step0 (heap' := [(0, .box (TWorld.c c24a)), (1, .box [.nils]), (2, .box (TAct.c x9))]) (next' := 3) rfl rfl rfl rfl rfl ?_
   refine GX.done ?_
   refine WK.nil (QF.normal (hK11 _ ?_))
   refine WK.nil (QF.normal (hK10 _ ?_))
   refine WK.regx mixed ?_
   refine GX.pure (v' := .int .i64 ((i9 + 1 : Nat) : Int)) rfl rfl rfl rfl (congrArg (PVal.int .i64) (wrap_up hlt8 hlen_8)) ?_
   refine GX.m rfl ?_
   refine GX.done ?_
   refine WK.nil (QF.normal ?_)
   exact hagain_8 _ (l1.length - (i9 + 1)) ⟨[(2, .ptr 0 0), (4, .ptr 1 0), (7, .ro 6 (l1.map TAct.c)), (8, .int .i64 (l1.length : Int)), (9, .int .i64 ((i9 + 1) : Int))], [(0, .box (TWorld.c c24a)), (1, .box [.nils])], 2⟩ (by omega) (Conv.keep [0, 1] [] [2, 4, 7, 8, 9] rfl rfl (viewE_cons rfl rfl (viewE_cons rfl rfl (viewE_cons rfl rfl (viewE_cons rfl rfl (viewE_cons rfl rfl viewE_nil))))) rfl rfl) ⟨i9 + 1, c24a, (by omega), rfl, (by omega), hL_8, rfl⟩

theorem f9_ok (tags0 : List Int) (script1 : List TAct) (R : TWorld × Bool) (hR : F9_crossroadslaw28_built tags0 script1 = R) : FnOk Try.prog 9 [.ro 1 (tags0.map c_u32), .ro 6 (script1.map TAct.c)] [] 0 (.tup [.agg (TWorld.c R.1), .bool R.2]) [] 0 := by
 refine FnOk.wk i9 rfl rfl ?_
 unfold F9_crossroadslaw28_built at hR
 change WK _ _ _ [ac9] _ ⟨[(0, .ro 1 (tags0.map c_u32)), (1, .ro 6 (script1.map TAct.c))], [], 0⟩
 unfold ac9
 refine WK.sr mixed ?_
 refine GX.step (v' := .ptr 0 0) (heap' := [(0, .box [.nils])]) (next' := 1) rfl rfl rfl rfl rfl rfl rfl ?_
 refine GX.m rfl ?_
 refine GX.done ?_
 refine WK.seq ?_
 refine WK.sr mixed ?_
 refine GX.m rfl ?_
 refine GX.pure (v' := .int .i64 (tags0.length : Int)) rfl rfl rfl rfl (len_map _ _) ?_
 refine GX.q (.bool (decide (20 < (tags0.length : Int)))) ?_
 refine GX.m rfl ?_
 rcases bool_two (decide (20 < (tags0.length : Int))) with hb1 | hb1
 ·rw [hb1]; try simp only [hb1, cond_true, cond_false, Bool.true_and, Bool.false_and, Bool.true_or, Bool.false_or, Bool.not_true, Bool.not_false] at hR
  refine GX.m rfl ?_
  refine GX.pure (v' := .int .i64 (script1.length : Int)) rfl rfl rfl rfl (len_map _ _) ?_
  refine GX.q (.bool (decide (100 < (script1.length : Int)))) ?_
  refine GX.q (.bool (decide (100 < (script1.length : Int)))) ?_
  refine GX.done ?_
  rcases bool_two (decide (100 < (script1.length : Int))) with hb2 | hb2
  ·rw [hb2]; try simp only [hb2, cond_true, cond_false, Bool.true_and, Bool.false_and, Bool.true_or, Bool.false_or, Bool.not_true, Bool.not_false] at hR
   refine WK.condF rfl ?_
   refine WK.skip ?_
   refine WK.sr mixed ?_
   refine GX.m rfl ?_
   generalize hc19 : F10_redist_New tags0 = c19 at hR
   have hpo0_c19 := post_i10 tags0; rw [hc19] at hpo0_c19
   obtain ⟨c19a, c19b⟩ := c19; try dsimp only at hR; try dsimp only at hpo0_c19
   refine GX.callp (r := .tup [.agg [.ro 3 (c19a.D.map TDomain.c)], .int .i64 c19b]) rfl rfl rfl (f10_ok tags0 (by ((try simp only [List.length_append, List.length_cons, List.length_nil, List.length_map, decide_eq_true_eq, decide_eq_false_iff_not] at *) <;> omega)) _ hc19) rfl rfl ?_
   refine GX.m rfl ?_
   refine GX.q (.agg [.ro 3 (c19a.D.map TDomain.c)]) ?_
   refine GX.q (.int .i64 c19b) ?_
   refine GX.step (v' := .ptr 1 0) (heap' := [(0, .box [.nils]), (1, .box [.nils])]) (next' := 2) rfl rfl rfl rfl rfl rfl rfl ?_
   refine GX.step0 (heap' := [(0, .box [.nils]), (1, .box (TWorld.c c19a))]) (next' := 2) rfl rfl rfl rfl rfl ?_
   refine GX.m rfl ?_
   refine GX.done ?_
   refine WK.sr mixed ?_
   refine GX.q (.agg (TWorld.c c19a)) ?_
   refine GX.m rfl ?_
   generalize hc24 : F24_redist_Run c19a script1 = c24 at hR
   have hpo0_c24 := post_i24 c19a script1 (by omega); rw [hc24] at hpo0_c24
   try dsimp only at hR
   refine GX.callp (r := .agg [.ro 3 (c24.D.map TDomain.c)]) rfl rfl rfl (f24_ok c19a script1 (by omega) _ hc24) rfl rfl ?_
   refine GX.m rfl ?_
   refine GX.q (.bool (decide (c19b = 0))) ?_
   refine GX.step0 (heap' := [(0, .box (TWorld.c c24)), (1, .box (TWorld.c c19a))]) (next' := 2) rfl rfl rfl rfl rfl ?_
   refine GX.m rfl ?_
   refine GX.done ?_
   refine WK.ret ?_
   subst hR
   exact RetQ.fr [] (.inr rfl) rfl rfl rfl rfl
  ·rw [hb2]; try simp only [hb2, cond_true, cond_false, Bool.true_and, Bool.false_and, Bool.true_or, Bool.false_or, Bool.not_true, Bool.not_false] at hR
   refine WK.condT rfl ?_
   refine WK.sr mixed ?_
   refine GX.q (.agg [.nils]) ?_
   refine GX.step0 (heap' := [(0, .box [.nils])]) (next' := 1) rfl rfl rfl rfl rfl ?_
   refine GX.m rfl ?_
   refine GX.done ?_
   refine WK.ret ?_
   subst hR
   exact RetQ.frw [] (.inr rfl) rfl rfl rfl (.tup (.cons (.agg (.cons .nil .refl)) .refl))
 ·rw [hb1]; try simp only [hb1, cond_true, cond_false, Bool.true_and, Bool.false_and, Bool.true_or, Bool.false_or, Bool.not_true, Bool.not_false] at hR
  refine GX.skip rfl rfl ?_
  refine GX.skip rfl rfl ?_
  refine GX.skip rfl rfl ?_
  refine GX.q (.bool true) ?_
  refine GX.done ?_
  refine WK.condT rfl ?_
  refine WK.sr mixed ?_
  refine GX.q (.agg [.nils]) ?_
  refine GX.step0 (heap' := [(0, .box [.nils])]) (next' := 1) rfl rfl rfl rfl rfl ?_
  refine GX.m rfl ?_
  refine GX.done ?_
  refine WK.ret ?_
  subst hR
  exact RetQ.frw [] (.inr rfl) rfl rfl rfl (.tup (.cons (.agg (.cons .nil .refl)) .refl))

theorem f12_ok (a0 : TWorld) (b1 : TWorld) (R : Bool) (hR : F12_crossroadsref28_Same a0 b1 = R) : FnOk Try.prog 12 [.agg (TWorld.c a0), .agg (TWorld.c b1)] [] 0 (.bool R) [] 0 := by
 refine FnOk.wk i12 rfl rfl ?_
 unfold F12_crossroadsref28_Same at hR
 change WK _ _ _ [ac12] _ ⟨[(0, .agg (TWorld.c a0)), (1, .agg (TWorld.c b1))], [], 0⟩
 unfold ac12
 refine WK.sr mixed ?_
 refine GX.step (v' := .ptr 0 0) (heap' := [(0, .box (TWorld.c a0))]) (next' := 1) rfl rfl rfl rfl rfl rfl rfl ?_
 refine GX.step (v' := .ptr 1 0) (heap' := [(0, .box (TWorld.c a0)), (1, .box (TWorld.c b1))]) (next' := 2) rfl rfl rfl rfl rfl rfl rfl ?_
 refine GX.m rfl ?_
 refine GX.done ?_
 refine WK.seq ?_
 refine WK.sr mixed ?_
 refine GX.q (.ptr 0 0) ?_
 refine GX.q (.ro 3 (a0.D.map TDomain.c)) ?_
 refine GX.pure (v' := .int .i64 (a0.D.length : Int)) rfl rfl rfl rfl (len_map _ _) ?_
 refine GX.q (.ptr 1 0) ?_
 refine GX.q (.ro 3 (b1.D.map TDomain.c)) ?_
 refine GX.pure (v' := .int .i64 (b1.D.length : Int)) rfl rfl rfl rfl (len_map _ _) ?_
 refine GX.q (.bool (!decide ((a0.D.length : Int) = (b1.D.length : Int)))) ?_
 refine GX.done ?_
 rcases bool_two (decide ((a0.D.length : Int) = (b1.D.length : Int))) with hb1 | hb1
 ·rw [hb1]; try simp only [hb1, cond_true, cond_false, Bool.true_and, Bool.false_and, Bool.true_or, Bool.false_or, Bool.not_true, Bool.not_false] at hR
  refine WK.condT rfl ?_
  refine WK.sr mixed ?_
  refine GX.m rfl ?_
  refine GX.done ?_
  refine WK.ret ?_
  subst hR
  exact RetQ.fr [] (.inr rfl) rfl rfl rfl rfl
 ·rw [hb1]; try simp only [hb1, cond_true, cond_false, Bool.true_and, Bool.false_and, Bool.true_or, Bool.false_or, Bool.not_true, Bool.not_false] at hR
  refine WK.condF rfl ?_
  refine WK.skip ?_
  refine WK.seq ?_
  refine WK.sr mixed ?_
  refine GX.m rfl ?_
  refine GX.done ?_
  refine WK.len (t := 11) rfl (by simp) (fun hlen_2 => ?_)
  rw [List.length_map] at hlen_2
  generalize hZ_2 : F12_crossroadsref28_Same_l3 b1 0 a0.D = Z_2 at hR
  refine WK.forK (fun k s => ∃ (i5 : Nat), i5 ≤ a0.D.length ∧ k = a0.D.length - i5 ∧ F12_crossroadsref28_Same_l3 b1 i5 (a0.D.drop i5) = Z_2 ∧ s = ⟨[(2, .ptr 0 0), (3, .ptr 1 0), (5, .int .i64 (i5 : Int))], [(0, .box (TWorld.c a0)), (1, .box (TWorld.c b1))], 2⟩) a0.D.length ⟨⟨[(2, .ptr 0 0), (3, .ptr 1 0), (5, .int .i64 (0 : Int))], [(0, .box (TWorld.c a0)), (1, .box (TWorld.c b1))], 2⟩, Conv.keep [0, 1] [] [2, 3, 5] rfl rfl (viewE_cons rfl rfl (viewE_cons rfl rfl (viewE_cons rfl rfl viewE_nil))) rfl rfl, 0, (by omega), rfl, hZ_2, rfl⟩ ?_
  rintro _ _ ⟨i5, hi_2, rfl, hL_2, rfl⟩ again_2 out_2 Q_2 hagain_2 hout_2 hQ_2
  refine WK.seq ?_
  refine WK.sr mixed ?_
  refine GX.m rfl ?_
  refine GX.q (.ptr 0 0) ?_
  refine GX.q (.ro 3 (a0.D.map TDomain.c)) ?_
  refine GX.pure (v' := .int .i64 (a0.D.length : Int)) rfl rfl rfl rfl (len_map _ _) ?_
  refine GX.q (.bool (decide ((i5 : Int) < (a0.D.length : Int)))) ?_
  refine GX.done ?_
  rcases bool_two (decide ((i5 : Int) < (a0.D.length : Int))) with hb3 | hb3
  ·rw [hb3]
   rw [drop_end hb3, F12_crossroadsref28_Same_l3] at hL_2
   refine WK.condF rfl ?_
   refine WK.exit ?_
   refine QF.exit (hout_2 _ ?_)
   subst hL_2
   try dsimp only [cond_true, cond_false] at hR
   refine WK.sr mixed ?_
   refine GX.m rfl ?_
   refine GX.done ?_
   refine WK.ret ?_
   subst hR
   exact RetQ.fr [] (.inr rfl) rfl rfl rfl rfl
  ·rw [hb3]
   obtain ⟨x5, hx2, hd2, hlt2⟩ := drop_more hb3
   rw [hd2, F12_crossroadsref28_Same_l3] at hL_2
   refine WK.condT rfl ?_
   refine WK.skip ?_
   refine WK.seq ?_
   refine WK.blockK (fun _ hK4 => ?_)
   refine WK.seq ?_
   refine WK.drawn mixed ?_
   refine RD.q (.ptr 0 0) ?_
   refine RD.q (.ro 3 (a0.D.map TDomain.c)) ?_
   refine RD.m rfl ?_
   refine RD.idxT (c := TDomain.c) (x := x5) rfl rfl rfl (Int.natCast_nonneg _) hx2 ?_
   refine RD.q (.agg (TDomain.c x5)) ?_
   refine RD.q (.ptr 1 0) ?_
   refine RD.q (.ro 3 (b1.D.map TDomain.c)) ?_
   refine RD.m rfl ?_
   refine RD.idxT (c := TDomain.c) (x := (b1.D.getD i5 default)) rfl rfl rfl (Int.natCast_nonneg _) (getD_at (by ((try simp only [decide_eq_true_eq, decide_eq_false_iff_not, Bool.not_eq_true, Bool.not_eq_false] at *); first | omega | (rw [wrap64_of (by omega) (by omega)]; omega) | (unfold min_ max_; (repeat' split) <;> first | omega | (rw [wrap64_of (by omega) (by omega)]; omega))))) ?_
   refine RD.q (.agg [.int .u32 ((b1.D.getD i5 default).Tag), .ro 2 (((b1.D.getD i5 default).In).map TPrefix.c), .ro 4 (((b1.D.getD i5 default).Ext).map TExt.c)]) ?_
   refine RD.step (v' := .ptr 2 0) (heap' := [(0, .box (TWorld.c a0)), (1, .box (TWorld.c b1)), (2, .box [.int .u32 0, .nils, .nils])]) (next' := 3) rfl rfl rfl rfl rfl rfl rfl ?_
   refine RD.step (v' := .ptr 3 0) (heap' := [(0, .box (TWorld.c a0)), (1, .box (TWorld.c b1)), (2, .box [.int .u32 0, .nils, .nils]), (3, .box [.int .u32 0, .nils, .nils])]) (next' := 4) rfl rfl rfl rfl rfl rfl rfl ?_
   refine RD.step0 (heap' := [(0, .box (TWorld.c a0)), (1, .box (TWorld.c b1)), (2, .box (TDomain.c x5)), (3, .box [.int .u32 0, .nils, .nils])]) (next' := 4) rfl rfl rfl rfl rfl ?_
   refine RD.step0 (heap' := [(0, .box (TWorld.c a0)), (1, .box (TWorld.c b1)), (2, .box (TDomain.c x5)), (3, .box [.int .u32 ((b1.D.getD i5 default).Tag), .ro 2 (((b1.D.getD i5 default).In).map TPrefix.c), .ro 4 (((b1.D.getD i5 default).Ext).map TExt.c)])]) (next' := 4) rfl rfl rfl rfl rfl ?_
   refine RD.done rfl ?_
   refine WK.seq ?_
   refine WK.sr mixed ?_
   refine GX.q (.ptr 2 0) ?_
   refine GX.q (.int .u32 x5.Tag) ?_
   refine GX.q (.ptr 3 0) ?_
   refine GX.q (.int .u32 ((b1.D.getD i5 default).Tag)) ?_
   refine GX.q (.bool (!decide (x5.Tag = (b1.D.getD i5 default).Tag))) ?_
   refine GX.m rfl ?_
   rcases bool_two (decide (x5.Tag = (b1.D.getD i5 default).Tag)) with hb5 | hb5
   ·rw [hb5]; try simp only [hb5, cond_true, cond_false, Bool.true_and, Bool.false_and, Bool.true_or, Bool.false_or, Bool.not_true, Bool.not_false] at hL_2
    refine GX.skip rfl rfl ?_
    refine GX.skip rfl rfl ?_
    refine GX.skip rfl rfl ?_
    refine GX.skip rfl rfl ?_
    refine GX.skip rfl rfl ?_
    refine GX.skip rfl rfl ?_
    refine GX.skip rfl rfl ?_
    refine GX.q (.bool true) ?_
    refine GX.m rfl ?_
    refine GX.skip rfl rfl ?_
    refine GX.skip rfl rfl ?_
    refine GX.skip rfl rfl ?_
    refine GX.skip rfl rfl ?_
    refine GX.skip rfl rfl ?_
    refine GX.skip rfl rfl ?_
    refine GX.skip rfl rfl ?_
    refine GX.q (.bool true) ?_
    refine GX.done ?_
    refine WK.condT rfl ?_
    refine WK.sr mixed ?_
    refine GX.m rfl ?_
    refine GX.done ?_
    refine WK.ret ?_
    refine QF.ret ?_
    refine QF.ret (hQ_2 _ _ ?_)
    subst hL_2
    subst hR
    exact RetQ.fr [] (.inr rfl) rfl rfl rfl rfl
   ·rw [hb5]; try simp only [hb5, cond_true, cond_false, Bool.true_and, Bool.false_and, Bool.true_or, Bool.false_or, Bool.not_true, Bool.not_false] at hL_2
    refine GX.q (.ptr 2 1) ?_
    refine GX.q (.ro 2 (x5.In.map TPrefix.c)) ?_
    refine GX.pure (v' := .int .i64 (x5.In.length : Int)) rfl rfl rfl rfl (len_map _ _) ?_
    refine GX.q (.ptr 3 1) ?_
    refine GX.q (.ro 2 (((b1.D.getD i5 default).In).map TPrefix.c)) ?_
    refine GX.pure (v' := .int .i64 (((b1.D.getD i5 default).In).length : Int)) rfl rfl rfl rfl (len_map _ _) ?_
    refine GX.q (.bool (!decide ((x5.In.length : Int) = (((b1.D.getD i5 default).In).length : Int)))) ?_
    refine GX.q (.bool (!decide ((x5.In.length : Int) = (((b1.D.getD i5 default).In).length : Int)))) ?_
    refine GX.m rfl ?_
    rcases bool_two (decide ((x5.In.length : Int) = (((b1.D.getD i5 default).In).length : Int))) with hb6 | hb6
    ·rw [hb6]; try simp only [hb6, cond_true, cond_false, Bool.true_and, Bool.false_and, Bool.true_or, Bool.false_or, Bool.not_true, Bool.not_false] at hL_2
     refine GX.skip rfl rfl ?_
     refine GX.skip rfl rfl ?_
     refine GX.skip rfl rfl ?_
     refine GX.skip rfl rfl ?_
     refine GX.skip rfl rfl ?_
     refine GX.skip rfl rfl ?_
     refine GX.skip rfl rfl ?_
     refine GX.q (.bool true) ?_
     refine GX.done ?_
     refine WK.condT rfl ?_
     refine WK.sr mixed ?_
     refine GX.m rfl ?_
     refine GX.done ?_
     refine WK.ret ?_
     refine QF.ret ?_
     refine QF.ret (hQ_2 _ _ ?_)
     subst hL_2
     subst hR
     exact RetQ.fr [] (.inr rfl) rfl rfl rfl rfl
    ·rw [hb6]; try simp only [hb6, cond_true, cond_false, Bool.true_and, Bool.false_and, Bool.true_or, Bool.false_or, Bool.not_true, Bool.not_false] at hL_2
     refine GX.q (.ptr 2 2) ?_
     refine GX.q (.ro 4 (x5.Ext.map TExt.c)) ?_
     refine GX.pure (v' := .int .i64 (x5.Ext.length : Int)) rfl rfl rfl rfl (len_map _ _) ?_
     refine GX.q (.ptr 3 2) ?_
     refine GX.q (.ro 4 (((b1.D.getD i5 default).Ext).map TExt.c)) ?_
     refine GX.pure (v' := .int .i64 (((b1.D.getD i5 default).Ext).length : Int)) rfl rfl rfl rfl (len_map _ _) ?_
     refine GX.q (.bool (!decide ((x5.Ext.length : Int) = (((b1.D.getD i5 default).Ext).length : Int)))) ?_
     refine GX.q (.bool (!decide ((x5.Ext.length : Int) = (((b1.D.getD i5 default).Ext).length : Int)))) ?_
     refine GX.done ?_
     rcases bool_two (decide ((x5.Ext.length : Int) = (((b1.D.getD i5 default).Ext).length : Int))) with hb7 | hb7
     ·rw [hb7]; try simp only [hb7, cond_true, cond_false, Bool.true_and, Bool.false_and, Bool.true_or, Bool.false_or, Bool.not_true, Bool.not_false] at hL_2
      refine WK.condT rfl ?_
      refine WK.sr mixed ?_
      refine GX.m rfl ?_
      refine GX.done ?_
      refine WK.ret ?_
      refine QF.ret ?_
      refine QF.ret (hQ_2 _ _ ?_)
      subst hL_2
      subst hR
      exact RetQ.fr [] (.inr rfl) rfl rfl rfl rfl
     ·rw [hb7]; try simp only [hb7, cond_true, cond_false, Bool.true_and, Bool.false_and, Bool.true_or, Bool.false_or, Bool.not_true, Bool.not_false] at hL_2
      refine WK.condF rfl ?_
      refine WK.skip ?_
      refine WK.seq ?_
      refine WK.sr mixed ?_
      refine GX.m rfl ?_
      refine GX.done ?_
      refine WK.len (t := 41) rfl (by simp) (fun hlen_8 => ?_)
      rw [List.length_map] at hlen_8
      generalize hZ_8 : F12_crossroadsref28_Same_l2 b1 i5 0 x5.In = Z_8 at hL_2
      refine WK.forK (fun k s => ∃ (i8 : Nat), i8 ≤ x5.In.length ∧ k = x5.In.length - i8 ∧ F12_crossroadsref28_Same_l2 b1 i5 i8 (x5.In.drop i8) = Z_8 ∧ s = ⟨[(2, .ptr 0 0), (3, .ptr 1 0), (5, .int .i64 (i5 : Int)), (6, .ptr 2 0), (7, .ptr 3 0), (8, .int .i64 (i8 : Int)), (40, .ptr 2 1), (41, .ro 2 (x5.In.map TPrefix.c)), (42, .int .i64 (x5.In.length : Int)), (43, .ptr 3 1), (44, .ro 2 (((b1.D.getD i5 default).In).map TPrefix.c)), (45, .int .i64 (((b1.D.getD i5 default).In).length : Int)), (46, .bool false), (49, .ptr 2 2), (50, .ro 4 (x5.Ext.map TExt.c)), (51, .int .i64 (x5.Ext.length : Int)), (52, .ptr 3 2), (53, .ro 4 (((b1.D.getD i5 default).Ext).map TExt.c)), (54, .int .i64 (((b1.D.getD i5 default).Ext).length : Int)), (55, .bool false)], [(0, .box (TWorld.c a0)), (1, .box (TWorld.c b1)), (2, .box (TDomain.c x5)), (3, .box [.int .u32 ((b1.D.getD i5 default).Tag), .ro 2 (((b1.D.getD i5 default).In).map TPrefix.c), .ro 4 (((b1.D.getD i5 default).Ext).map TExt.c)])], 4⟩) x5.In.length ⟨⟨[(2, .ptr 0 0), (3, .ptr 1 0), (5, .int .i64 (i5 : Int)), (6, .ptr 2 0), (7, .ptr 3 0), (8, .int .i64 (0 : Int)), (40, .ptr 2 1), (41, .ro 2 (x5.In.map TPrefix.c)), (42, .int .i64 (x5.In.length : Int)), (43, .ptr 3 1), (44, .ro 2 (((b1.D.getD i5 default).In).map TPrefix.c)), (45, .int .i64 (((b1.D.getD i5 default).In).length : Int)), (46, .bool false), (49, .ptr 2 2), (50, .ro 4 (x5.Ext.map TExt.c)), (51, .int .i64 (x5.Ext.length : Int)), (52, .ptr 3 2), (53, .ro 4 (((b1.D.getD i5 default).Ext).map TExt.c)), (54, .int .i64 (((b1.D.getD i5 default).Ext).length : Int)), (55, .bool false)], [(0, .box (TWorld.c a0)), (1, .box (TWorld.c b1)), (2, .box (TDomain.c x5)), (3, .box [.int .u32 ((b1.D.getD i5 default).Tag), .ro 2 (((b1.D.getD i5 default).In).map TPrefix.c), .ro 4 (((b1.D.getD i5 default).Ext).map TExt.c)])], 4⟩, Conv.keep [0, 1, 2, 3] [] [2, 3, 5, 6, 7, 8, 40, 41, 42, 43, 44, 45, 46, 49, 50, 51, 52, 53, 54, 55] rfl rfl (viewE_cons rfl rfl (viewE_cons rfl rfl (viewE_cons rfl rfl (viewE_cons rfl rfl (viewE_cons rfl rfl (viewE_cons rfl rfl (viewE_cons rfl rfl (viewE_cons rfl rfl (viewE_cons rfl rfl (viewE_cons rfl rfl (viewE_cons rfl rfl (viewE_cons rfl rfl (viewE_cons rfl rfl (viewE_cons rfl rfl (viewE_cons rfl rfl (viewE_cons rfl rfl (viewE_cons rfl rfl (viewE_cons rfl rfl (viewE_cons rfl rfl (viewE_cons rfl rfl viewE_nil)))))))))))))))))))) rfl rfl, 0, (by omega), rfl, hZ_8, rfl⟩ ?_
      rintro _ _ ⟨i8, hi_8, rfl, hL_8, rfl⟩ again_8 out_8 Q_8 hagain_8 hout_8 hQ_8
      refine WK.seq ?_
      refine WK.sr mixed ?_
      refine GX.m rfl ?_
      refine GX.q (.ptr 2 1) ?_
      refine GX.q (.ro 2 (x5.In.map TPrefix.c)) ?_
      refine GX.pure (v' := .int .i64 (x5.In.length : Int)) rfl rfl rfl rfl (len_map _ _) ?_
      refine GX.q (.bool (decide ((i8 : Int) < (x5.In.length : Int)))) ?_
      refine GX.done ?_
      rcases bool_two (decide ((i8 : Int) < (x5.In.length : Int))) with hb9 | hb9
      ·rw [hb9]
       rw [drop_end hb9, F12_crossroadsref28_Same_l2] at hL_8
       refine WK.condF rfl ?_
       refine WK.exit ?_
       refine QF.exit (hout_8 _ ?_)
       subst hL_8
       try dsimp only [cond_true, cond_false] at hL_2
       refine WK.sr mixed ?_
       refine GX.m rfl ?_
       refine GX.done ?_
       refine WK.len (t := 50) rfl (by simp) (fun hlen_10 => ?_)
       rw [List.length_map] at hlen_10
       generalize hZ_10 : F12_crossroadsref28_Same_l1 b1 i5 0 x5.Ext = Z_10 at hL_2
       refine WK.forK (fun k s => ∃ (i9 : Nat), i9 ≤ x5.Ext.length ∧ k = x5.Ext.length - i9 ∧ F12_crossroadsref28_Same_l1 b1 i5 i9 (x5.Ext.drop i9) = Z_10 ∧ s = ⟨[(2, .ptr 0 0), (3, .ptr 1 0), (5, .int .i64 (i5 : Int)), (6, .ptr 2 0), (7, .ptr 3 0), (9, .int .i64 (i9 : Int)), (40, .ptr 2 1), (41, .ro 2 (x5.In.map TPrefix.c)), (42, .int .i64 (x5.In.length : Int)), (43, .ptr 3 1), (44, .ro 2 (((b1.D.getD i5 default).In).map TPrefix.c)), (45, .int .i64 (((b1.D.getD i5 default).In).length : Int)), (46, .bool false), (49, .ptr 2 2), (50, .ro 4 (x5.Ext.map TExt.c)), (51, .int .i64 (x5.Ext.length : Int)), (52, .ptr 3 2), (53, .ro 4 (((b1.D.getD i5 default).Ext).map TExt.c)), (54, .int .i64 (((b1.D.getD i5 default).Ext).length : Int)), (55, .bool false)], [(0, .box (TWorld.c a0)), (1, .box (TWorld.c b1)), (2, .box (TDomain.c x5)), (3, .box [.int .u32 ((b1.D.getD i5 default).Tag), .ro 2 (((b1.D.getD i5 default).In).map TPrefix.c), .ro 4 (((b1.D.getD i5 default).Ext).map TExt.c)])], 4⟩) x5.Ext.length ⟨⟨[(2, .ptr 0 0), (3, .ptr 1 0), (5, .int .i64 (i5 : Int)), (6, .ptr 2 0), (7, .ptr 3 0), (9, .int .i64 (0 : Int)), (40, .ptr 2 1), (41, .ro 2 (x5.In.map TPrefix.c)), (42, .int .i64 (x5.In.length : Int)), (43, .ptr 3 1), (44, .ro 2 (((b1.D.getD i5 default).In).map TPrefix.c)), (45, .int .i64 (((b1.D.getD i5 default).In).length : Int)), (46, .bool false), (49, .ptr 2 2), (50, .ro 4 (x5.Ext.map TExt.c)), (51, .int .i64 (x5.Ext.length : Int)), (52, .ptr 3 2), (53, .ro 4 (((b1.D.getD i5 default).Ext).map TExt.c)), (54, .int .i64 (((b1.D.getD i5 default).Ext).length : Int)), (55, .bool false)], [(0, .box (TWorld.c a0)), (1, .box (TWorld.c b1)), (2, .box (TDomain.c x5)), (3, .box [.int .u32 ((b1.D.getD i5 default).Tag), .ro 2 (((b1.D.getD i5 default).In).map TPrefix.c), .ro 4 (((b1.D.getD i5 default).Ext).map TExt.c)])], 4⟩, Conv.keep [0, 1, 2, 3] [] [2, 3, 5, 6, 7, 9, 40, 41, 42, 43, 44, 45, 46, 49, 50, 51, 52, 53, 54, 55] rfl rfl (viewE_cons rfl rfl (viewE_cons rfl rfl (viewE_cons rfl rfl (viewE_cons rfl rfl (viewE_cons rfl rfl (viewE_cons rfl rfl (viewE_cons rfl rfl (viewE_cons rfl rfl (viewE_cons rfl rfl (viewE_cons rfl rfl (viewE_cons rfl rfl (viewE_cons rfl rfl (viewE_cons rfl rfl (viewE_cons rfl rfl (viewE_cons rfl rfl (viewE_cons rfl rfl (viewE_cons rfl rfl (viewE_cons rfl rfl (viewE_cons rfl rfl (viewE_cons rfl rfl viewE_nil)))))))))))))))))))) rfl rfl, 0, (by omega), rfl, hZ_10, rfl⟩ ?_
       rintro _ _ ⟨i9, hi_10, rfl, hL_10, rfl⟩ again_10 out_10 Q_10 hagain_10 hout_10 hQ_10
       refine WK.seq ?_
       refine WK.sr mixed ?_
       refine GX.m rfl ?_
       refine GX.q (.ptr 2 2) ?_
       refine GX.q (.ro 4 (x5.Ext.map TExt.c)) ?_
       refine GX.pure (v' := .int .i64 (x5.Ext.length : Int)) rfl rfl rfl rfl (len_map _ _) ?_
       refine GX.q (.bool (decide ((i9 : Int) < (x5.Ext.length : Int)))) ?_
       refine GX.done ?_
       rcases bool_two (decide ((i9 : Int) < (x5.Ext.length : Int))) with hb11 | hb11
       ·rw [hb11]
        rw [drop_end hb11, F12_crossroadsref28_Same_l1] at hL_10
        refine WK.condF rfl ?_
        refine WK.exit ?_
        refine QF.exit (hout_10 _ ?_)
        subst hL_10
        try dsimp only [cond_true, cond_false] at hL_2
        refine WK.nil (QF.normal (hK4 _ ?_))
        refine WK.regx mixed ?_
        refine GX.m rfl ?_
        refine GX.pure (v' := .int .i64 ((i5 + 1 : Nat) : Int)) rfl rfl rfl rfl (congrArg (PVal.int .i64) (wrap_up hlt2 hlen_2)) ?_
        refine GX.m rfl ?_
        refine GX.done ?_
        refine WK.nil (QF.normal ?_)
        exact hagain_2 _ (a0.D.length - (i5 + 1)) ⟨[(2, .ptr 0 0), (3, .ptr 1 0), (5, .int .i64 ((i5 + 1) : Int))], [(0, .box (TWorld.c a0)), (1, .box (TWorld.c b1))], 2⟩ (by omega) (Conv.keep [0, 1] [] [2, 3, 5] rfl rfl (viewE_cons rfl rfl (viewE_cons rfl rfl (viewE_cons rfl rfl viewE_nil))) rfl rfl) ⟨i5 + 1, (by omega), rfl, hL_2, rfl⟩
       ·rw [hb11]
        obtain ⟨x9, hx10, hd10, hlt10⟩ := drop_more hb11
        rw [hd10, F12_crossroadsref28_Same_l1] at hL_10
        refine WK.condT rfl ?_
        refine WK.skip ?_
        refine WK.seq ?_
        refine WK.blockK (fun _ hK12 => ?_)
        refine WK.seq ?_
        refine WK.drawn mixed ?_
        refine RD.q (.ptr 2 2) ?_
        refine RD.q (.ro 4 (x5.Ext.map TExt.c)) ?_
        refine RD.m rfl ?_
        refine RD.idxT (c := TExt.c) (x := x9) rfl rfl rfl (Int.natCast_nonneg _) hx10 ?_
        refine RD.q (.agg (TExt.c x9)) ?_
        refine RD.q (.ptr 3 2) ?_
        refine RD.q (.ro 4 (((b1.D.getD i5 default).Ext).map TExt.c)) ?_
        refine RD.m rfl ?_
        refine RD.idxT (c := TExt.c) (x := (((b1.D.getD i5 default).Ext).getD i9 default)) rfl rfl rfl (Int.natCast_nonneg _) (getD_at (by ((try simp only [decide_eq_true_eq, decide_eq_false_iff_not, Bool.not_eq_true, Bool.not_eq_false] at *); first | omega | (rw [wrap64_of (by omega) (by omega)]; omega) | (unfold min_ max_; (repeat' split) <;> first | omega | (rw [wrap64_of (by omega) (by omega)]; omega))))) ?_
        refine RD.q (.agg [.int .u32 (((((b1.D.getD i5 default).Ext).getD i9 default).P).A), .int .i64 (((((b1.D.getD i5 default).Ext).getD i9 default).P).N), .int .u32 ((((b1.D.getD i5 default).Ext).getD i9 default).Tag), .bool ((((b1.D.getD i5 default).Ext).getD i9 default).Marked)]) ?_
        refine RD.q (.bool (!(decide (x9.P.A = ((((b1.D.getD i5 default).Ext).getD i9 default).P).A) && (decide (x9.P.N = ((((b1.D.getD i5 default).Ext).getD i9 default).P).N) && (decide (x9.Tag = (((b1.D.getD i5 default).Ext).getD i9 default).Tag) && ((x9.Marked == ((((b1.D.getD i5 default).Ext).getD i9 default).Marked)) && true)))))) ?_
        refine RD.done rfl ?_
        rcases bool_two (decide (x9.P.A = ((((b1.D.getD i5 default).Ext).getD i9 default).P).A) && (decide (x9.P.N = ((((b1.D.getD i5 default).Ext).getD i9 default).P).N) && (decide (x9.Tag = (((b1.D.getD i5 default).Ext).getD i9 default).Tag) && ((x9.Marked == ((((b1.D.getD i5 default).Ext).getD i9 default).Marked)) && true)))) with hb13 | hb13
        ·rw [hb13]; try simp only [hb13, cond_true, cond_false, Bool.true_and, Bool.false_and, Bool.true_or, Bool.false_or, Bool.not_true, Bool.not_false] at hL_10
         refine WK.condT rfl ?_
         refine WK.sr mixed ?_
         refine GX.m rfl ?_
         refine GX.done ?_
         refine WK.ret ?_
         refine QF.ret ?_
         refine QF.ret (hQ_10 _ _ ?_)
         refine QF.ret ?_
         refine QF.ret (hQ_2 _ _ ?_)
         subst hL_10
         subst hL_2
         subst hR
         exact RetQ.fr [] (.inr rfl) rfl rfl rfl rfl
        ·rw [hb13]; try simp only [hb13, cond_true, cond_false, Bool.true_and, Bool.false_and, Bool.true_or, Bool.false_or, Bool.not_true, Bool.not_false] at hL_10
         refine WK.condF rfl ?_
         refine WK.skip ?_
         refine WK.nil (QF.normal (hK12 _ ?_))
         refine WK.regx mixed ?_
         refine GX.m rfl ?_
         refine GX.pure (v' := .int .i64 ((i9 + 1 : Nat) : Int)) rfl rfl rfl rfl (congrArg (PVal.int .i64) (wrap_up hlt10 hlen_10)) ?_
         refine GX.m rfl ?_
         refine GX.done ?_
         refine WK.nil (QF.normal ?_)
         exact hagain_10 _ (x5.Ext.length - (i9 + 1)) ⟨[(2, .ptr 0 0), (3, .ptr 1 0), (5, .int .i64 (i5 : Int)), (6, .ptr 2 0), (7, .ptr 3 0), (9, .int .i64 ((i9 + 1) : Int)), (40, .ptr 2 1), (41, .ro 2 (x5.In.map TPrefix.c)), (42, .int .i64 (x5.In.length : Int)), (43, .ptr 3 1), (44, .ro 2 (((b1.D.getD i5 default).In).map TPrefix.c)), (45, .int .i64 (((b1.D.getD i5 default).In).length : Int)), (46, .bool false), (49, .ptr 2 2), (50, .ro 4 (x5.Ext.map TExt.c)), (51, .int .i64 (x5.Ext.length : Int)), (52, .ptr 3 2), (53, .ro 4 (((b1.D.getD i5 default).Ext).map TExt.c)), (54, .int .i64 (((b1.D.getD i5 default).Ext).length : Int)), (55, .bool false)], [(0, .box (TWorld.c a0)), (1, .box (TWorld.c b1)), (2, .box (TDomain.c x5)), (3, .box [.int .u32 ((b1.D.getD i5 default).Tag), .ro 2 (((b1.D.getD i5 default).In).map TPrefix.c), .ro 4 (((b1.D.getD i5 default).Ext).map TExt.c)])], 4⟩ (by omega) (Conv.keep [0, 1, 2, 3] [] [2, 3, 5, 6, 7, 9, 40, 41, 42, 43, 44, 45, 46, 49, 50, 51, 52, 53, 54, 55] rfl rfl (viewE_cons rfl rfl (viewE_cons rfl rfl (viewE_cons rfl rfl (viewE_cons rfl rfl (viewE_cons rfl rfl (viewE_cons rfl rfl (viewE_cons rfl rfl (viewE_cons rfl rfl (viewE_cons rfl rfl (viewE_cons rfl rfl (viewE_cons rfl rfl (viewE_cons rfl rfl (viewE_cons rfl rfl (viewE_cons rfl rfl (viewE_cons rfl rfl (viewE_cons rfl rfl (viewE_cons rfl rfl (viewE_cons rfl rfl (viewE_cons rfl rfl (viewE_cons rfl rfl viewE_nil)))))))))))))))))))) rfl rfl) ⟨i9 + 1, (by omega), rfl, hL_10, rfl⟩
      ·rw [hb9]
       obtain ⟨x8, hx8, hd8, hlt8⟩ := drop_more hb9
       rw [hd8, F12_crossroadsref28_Same_l2] at hL_8
       refine WK.condT rfl ?_
       refine WK.skip ?_
       refine WK.seq ?_
       refine WK.blockK (fun _ hK14 => ?_)
       refine WK.seq ?_
       refine WK.drawn mixed ?_
       refine RD.q (.ptr 2 1) ?_
       refine RD.q (.ro 2 (x5.In.map TPrefix.c)) ?_
       refine RD.m rfl ?_
       refine RD.idxT (c := TPrefix.c) (x := x8) rfl rfl rfl (Int.natCast_nonneg _) hx8 ?_
       refine RD.q (.agg (TPrefix.c x8)) ?_
       refine RD.q (.ptr 3 1) ?_
       refine RD.q (.ro 2 (((b1.D.getD i5 default).In).map TPrefix.c)) ?_
       refine RD.m rfl ?_
       refine RD.idxT (c := TPrefix.c) (x := (((b1.D.getD i5 default).In).getD i8 default)) rfl rfl rfl (Int.natCast_nonneg _) (getD_at (by ((try simp only [decide_eq_true_eq, decide_eq_false_iff_not, Bool.not_eq_true, Bool.not_eq_false] at *); first | omega | (rw [wrap64_of (by omega) (by omega)]; omega) | (unfold min_ max_; (repeat' split) <;> first | omega | (rw [wrap64_of (by omega) (by omega)]; omega))))) ?_
       refine RD.q (.agg [.int .u32 ((((b1.D.getD i5 default).In).getD i8 default).A), .int .i64 ((((b1.D.getD i5 default).In).getD i8 default).N)]) ?_
       refine RD.q (.bool (!(decide (x8.A = (((b1.D.getD i5 default).In).getD i8 default).A) && (decide (x8.N = (((b1.D.getD i5 default).In).getD i8 default).N) && true)))) ?_
       refine RD.done rfl ?_
       rcases bool_two (decide (x8.A = (((b1.D.getD i5 default).In).getD i8 default).A) && (decide (x8.N = (((b1.D.getD i5 default).In).getD i8 default).N) && true)) with hb15 | hb15
       ·rw [hb15]; try simp only [hb15, cond_true, cond_false, Bool.true_and, Bool.false_and, Bool.true_or, Bool.false_or, Bool.not_true, Bool.not_false] at hL_8
        refine WK.condT rfl ?_
        refine WK.sr mixed ?_
        refine GX.m rfl ?_
        refine GX.done ?_
        refine WK.ret ?_
        refine QF.ret ?_
        refine QF.ret (hQ_8 _ _ ?_)
        refine QF.ret ?_
        refine QF.ret (hQ_2 _ _ ?_)
        subst hL_8
        subst hL_2
        subst hR
        exact RetQ.fr [] (.inr rfl) rfl rfl rfl rfl
       ·rw [hb15]; try simp only [hb15, cond_true, cond_false, Bool.true_and, Bool.false_and, Bool.true_or, Bool.false_or, Bool.not_true, Bool.not_false] at hL_8
        refine WK.condF rfl ?_
        refine WK.skip ?_
        refine WK.nil (QF.normal (hK14 _ ?_))
        refine WK.regx mixed ?_
        refine GX.m rfl ?_
        refine GX.pure (v' := .int .i64 ((i8 + 1 : Nat) : Int)) rfl rfl rfl rfl (congrArg (PVal.int .i64) (wrap_up hlt8 hlen_8)) ?_
        refine GX.m rfl ?_
        refine GX.done ?_
        refine WK.nil (QF.normal ?_)
        exact hagain_8 _ (x5.In.length - (i8 + 1)) ⟨[(2, .ptr 0 0), (3, .ptr 1 0), (5, .int .i64 (i5 : Int)), (6, .ptr 2 0), (7, .ptr 3 0), (8, .int .i64 ((i8 + 1) : Int)), (40, .ptr 2 1), (41, .ro 2 (x5.In.map TPrefix.c)), (42, .int .i64 (x5.In.length : Int)), (43, .ptr 3 1), (44, .ro 2 (((b1.D.getD i5 default).In).map TPrefix.c)), (45, .int .i64 (((b1.D.getD i5 default).In).length : Int)), (46, .bool false), (49, .ptr 2 2), (50, .ro 4 (x5.Ext.map TExt.c)), (51, .int .i64 (x5.Ext.length : Int)), (52, .ptr 3 2), (53, .ro 4 (((b1.D.getD i5 default).Ext).map TExt.c)), (54, .int .i64 (((b1.D.getD i5 default).Ext).length : Int)), (55, .bool false)], [(0, .box (TWorld.c a0)), (1, .box (TWorld.c b1)), (2, .box (TDomain.c x5)), (3, .box [.int .u32 ((b1.D.getD i5 default).Tag), .ro 2 (((b1.D.getD i5 default).In).map TPrefix.c), .ro 4 (((b1.D.getD i5 default).Ext).map TExt.c)])], 4⟩ (by omega) (Conv.keep [0, 1, 2, 3] [] [2, 3, 5, 6, 7, 8, 40, 41, 42, 43, 44, 45, 46, 49, 50, 51, 52, 53, 54, 55] rfl rfl (viewE_cons rfl rfl (viewE_cons rfl rfl (viewE_cons rfl rfl (viewE_cons rfl rfl (viewE_cons rfl rfl (viewE_cons rfl rfl (viewE_cons rfl rfl (viewE_cons rfl rfl (viewE_cons rfl rfl (viewE_cons rfl rfl (viewE_cons rfl rfl (viewE_cons rfl rfl (viewE_cons rfl rfl (viewE_cons rfl rfl (viewE_cons rfl rfl (viewE_cons rfl rfl (viewE_cons rfl rfl (viewE_cons rfl rfl (viewE_cons rfl rfl (viewE_cons rfl rfl viewE_nil)))))))))))))))))))) rfl rfl) ⟨i8 + 1, (by omega), rfl, hL_8, rfl⟩

theorem f23_ok (x0 : TExt) (R : TExt) (hR : F23_crossroadslaw28_ext x0 = R) : FnOk Try.prog 23 [.agg (TExt.c x0)] [] 0 (.agg (TExt.c R)) [] 0 := by
 refine FnOk.wk i23 rfl rfl ?_
 unfold F23_crossroadslaw28_ext at hR
 change WK _ _ _ [ac23] _ ⟨[(0, .agg (TExt.c x0))], [], 0⟩
 unfold ac23
 refine WK.sr mixed ?_
 refine GX.step (v' := .ptr 0 0) (heap' := [(0, .box (TExt.c x0))]) (next' := 1) rfl rfl rfl rfl rfl rfl rfl ?_
 refine GX.step (v' := .ptr 1 0) (heap' := [(0, .box (TExt.c x0)), (1, .box [.int .u32 0, .int .i64 0, .int .u32 0, .bool false])]) (next' := 2) rfl rfl rfl rfl rfl rfl rfl ?_
 refine GX.done ?_
 refine WK.sr mixed ?_
 refine GX.q (.ptr 0 0) ?_
 refine GX.q (.agg [.int .u32 x0.P.A, .int .i64 x0.P.N]) ?_
 refine GX.q (.ptr 0 2) ?_
 refine GX.q (.int .u32 x0.Tag) ?_
 refine GX.q (.ptr 0 3) ?_
 refine GX.q (.bool x0.Marked) ?_
 refine GX.q (.agg (TExt.c x0)) ?_
 refine GX.step0 (heap' := [(0, .box (TExt.c x0)), (1, .box (TExt.c x0))]) (next' := 2) rfl rfl rfl rfl rfl ?_
 refine GX.done ?_
 refine WK.ret ?_
 subst hR
 exact RetQ.fr [] (.inr rfl) rfl rfl rfl rfl

theorem f13_ok (w0 : TWorld) (hp0 : InvW w0) (R : TWorld) (hR : F13_crossroadslaw28_plain w0 = R) : FnOk Try.prog 13 [.agg (TWorld.c w0)] [] 0 (.agg (TWorld.c R)) [] 0 := by
 refine FnOk.wk i13 rfl rfl ?_
 unfold F13_crossroadslaw28_plain at hR
 change WK _ _ _ [ac13] _ ⟨[(0, .agg (TWorld.c w0))], [], 0⟩
 unfold ac13
 refine WK.sr mixed ?_
 refine GX.step (v' := .ptr 0 0) (heap' := [(0, .box (TWorld.c w0))]) (next' := 1) rfl rfl rfl rfl rfl rfl rfl ?_
 refine GX.step (v' := .ptr 1 0) (heap' := [(0, .box (TWorld.c w0)), (1, .box [.nils])]) (next' := 2) rfl rfl rfl rfl rfl rfl rfl ?_
 refine GX.done ?_
 refine WK.sr mixed ?_
 refine GX.q (.agg [.nils]) ?_
 refine GX.step (v' := .ptr 2 0) (heap' := [(0, .box (TWorld.c w0)), (1, .box [.nils]), (2, .box [.nils])]) (next' := 3) rfl rfl rfl rfl rfl rfl rfl ?_
 refine GX.step0 (heap' := [(0, .box (TWorld.c w0)), (1, .box [.nils]), (2, .box [.nils])]) (next' := 3) rfl rfl rfl rfl rfl ?_
 refine GX.done ?_
 refine WK.seq ?_
 refine WK.sr mixed ?_
 refine GX.m rfl ?_
 refine GX.done ?_
 refine WK.adoptB (id := 2) (j := 0) (sz := 3) (ty := 88) (heap' := [(0, .box (TWorld.c w0)), (1, .box [.nils]), (2, .box [.own 3 3 0 (([] : List TDomain)).length]), (3, .row 3 88 (([] : List TDomain).map TDomain.c))]) rfl rfl (by decide) (by simp) rfl ?_
 refine WK.lenb (id := 0) (j := 0) rfl rfl (by simp) (fun hlen_11 => ?_)
 rw [List.length_map] at hlen_11
 generalize hZ_11 : F13_crossroadslaw28_plain_l2 ([] : List TDomain) w0.D = Z_11 at hR
 refine WK.forK (fun k s => ∃ (i4 : Nat) (row3 : List TDomain), i4 ≤ w0.D.length ∧ k = w0.D.length - i4 ∧ row3.length ≤ i4 + 0 ∧ F13_crossroadslaw28_plain_l2 row3 (w0.D.drop i4) = Z_11 ∧ s = ⟨[(1, .ptr 0 0), (2, .ptr 1 0), (3, .ptr 2 0), (4, .int .i64 (i4 : Int))], [(0, .box (TWorld.c w0)), (1, .box [.nils]), (2, .box [.own 3 3 0 row3.length]), (3, .row 3 88 (row3.map TDomain.c))], 4⟩) w0.D.length ⟨⟨[(1, .ptr 0 0), (2, .ptr 1 0), (3, .ptr 2 0), (4, .int .i64 (0 : Int))], [(0, .box (TWorld.c w0)), (1, .box [.nils]), (2, .box [.own 3 3 0 ([] : List TDomain).length]), (3, .row 3 88 (([] : List TDomain).map TDomain.c))], 4⟩, Conv.keep [0, 1, 2, 3] [] [1, 2, 3, 4] rfl rfl (viewE_cons rfl rfl (viewE_cons rfl rfl (viewE_cons rfl rfl (viewE_cons rfl rfl viewE_nil)))) rfl rfl, 0, ([] : List TDomain), (by omega), rfl, (by ((try simp only [List.length_append, List.length_cons, List.length_nil, decide_eq_true_eq] at *) <;> first | omega | (rw [wrap64_of (by omega) (by omega)]; omega))), hZ_11, rfl⟩ ?_
 rintro _ _ ⟨i4, row3, hi_11, rfl, hinv11_row3, hL_11, rfl⟩ again_11 out_11 Q_11 hagain_11 hout_11 hQ_11
 refine WK.seq ?_
 refine WK.sr mixed ?_
 refine GX.m rfl ?_
 refine GX.q (.ptr 0 0) ?_
 refine GX.q (.ro 3 (w0.D.map TDomain.c)) ?_
 refine GX.pure (v' := .int .i64 (w0.D.length : Int)) rfl rfl rfl rfl (len_map _ _) ?_
 refine GX.q (.bool (decide ((i4 : Int) < (w0.D.length : Int)))) ?_
 refine GX.done ?_
 rcases bool_two (decide ((i4 : Int) < (w0.D.length : Int))) with hb12 | hb12
 ·rw [hb12]
  rw [drop_end hb12, F13_crossroadslaw28_plain_l2] at hL_11
  refine WK.condF rfl ?_
  refine WK.exit ?_
  refine QF.exit (hout_11 _ ?_)
  subst hL_11
  try dsimp only [cond_true, cond_false] at hR
  refine WK.sr mixed ?_
  refine GX.q (.agg [.own 3 3 0 row3.length]) ?_
  refine GX.step0 (heap' := [(0, .box (TWorld.c w0)), (1, .box [.own 3 3 0 row3.length]), (2, .box [.own 3 3 0 row3.length]), (3, .row 3 88 (row3.map TDomain.c))]) (next' := 4) rfl rfl rfl rfl rfl ?_
  refine GX.done ?_
  refine WK.ret ?_
  subst hR
  exact RetQ.fr [3] (.inr rfl) rfl rfl (viewGo_cons (viewP_agg (viewGo_cons (view_rowT rfl rfl) viewGo_nil)) viewGo_nil) rfl
 ·rw [hb12]
  obtain ⟨x4, hx11, hd11, hlt11⟩ := drop_more hb12
  rw [hd11, F13_crossroadslaw28_plain_l2] at hL_11
  refine WK.condT rfl ?_
  refine WK.skip ?_
  refine WK.seq ?_
  refine WK.blockK (fun _ hK13 => ?_)
  refine WK.seq ?_
  refine WK.drawn mixed ?_
  refine RD.q (.ptr 0 0) ?_
  refine RD.q (.ro 3 (w0.D.map TDomain.c)) ?_
  refine RD.m rfl ?_
  refine RD.idxT (c := TDomain.c) (x := x4) rfl rfl rfl (Int.natCast_nonneg _) hx11 ?_
  refine RD.q (.rptr (TDomain.c x4)) ?_
  refine RD.q (.int .u32 x4.Tag) ?_
  refine RD.q (.ptr 0 0) ?_
  refine RD.q (.ro 3 (w0.D.map TDomain.c)) ?_
  refine RD.m rfl ?_
  refine RD.idxT (c := TDomain.c) (x := x4) rfl rfl rfl (Int.natCast_nonneg _) hx11 ?_
  refine RD.q (.rptr [.ro 2 (x4.In.map TPrefix.c), .ro 4 (x4.Ext.map TExt.c)]) ?_
  refine RD.q (.ro 2 (x4.In.map TPrefix.c)) ?_
  refine RD.q (.agg [.int .u32 x4.Tag, .ro 2 (x4.In.map TPrefix.c), .nils]) ?_
  refine RD.step (v' := .ptr 4 0) (heap' := [(0, .box (TWorld.c w0)), (1, .box [.nils]), (2, .box [.own 3 3 0 row3.length]), (3, .row 3 88 (row3.map TDomain.c)), (4, .box [.int .u32 0, .nils, .nils])]) (next' := 5) rfl rfl rfl rfl rfl rfl rfl ?_
  refine RD.step0 (heap' := [(0, .box (TWorld.c w0)), (1, .box [.nils]), (2, .box [.own 3 3 0 row3.length]), (3, .row 3 88 (row3.map TDomain.c)), (4, .box [.int .u32 x4.Tag, .ro 2 (x4.In.map TPrefix.c), .nils])]) (next' := 5) rfl rfl rfl rfl rfl ?_
  refine RD.done rfl ?_
  refine WK.seq ?_
  refine WK.sr mixed ?_
  refine GX.m rfl ?_
  refine GX.done ?_
  refine WK.adoptB (id := 4) (j := 2) (sz := 4) (ty := 70) (heap' := [(0, .box (TWorld.c w0)), (1, .box [.nils]), (2, .box [.own 3 3 0 row3.length]), (3, .row 3 88 (row3.map TDomain.c)), (4, .box [.int .u32 x4.Tag, .ro 2 (x4.In.map TPrefix.c), .own 5 4 0 (([] : List TExt)).length]), (5, .row 4 70 (([] : List TExt).map TExt.c))]) rfl rfl (by decide) (by simp) rfl ?_
  refine WK.lenp (t := 18) (j := 2) rfl rfl (by simp) (fun hlen_20 => ?_)
  rw [List.length_map] at hlen_20
  generalize hZ_20 : F13_crossroadslaw28_plain_l1 ([] : List TExt) x4.Ext = Z_20 at hL_11
  refine WK.forK (fun k s => ∃ (i6 : Nat) (row5 : List TExt), i6 ≤ x4.Ext.length ∧ k = x4.Ext.length - i6 ∧ row5.length ≤ i6 + 0 ∧ F13_crossroadslaw28_plain_l1 row5 (x4.Ext.drop i6) = Z_20 ∧ s = ⟨[(1, .ptr 0 0), (2, .ptr 1 0), (3, .ptr 2 0), (4, .int .i64 (i4 : Int)), (5, .ptr 4 0), (6, .int .i64 (i6 : Int))], [(0, .box (TWorld.c w0)), (1, .box [.nils]), (2, .box [.own 3 3 0 row3.length]), (3, .row 3 88 (row3.map TDomain.c)), (4, .box [.int .u32 x4.Tag, .ro 2 (x4.In.map TPrefix.c), .own 5 4 0 row5.length]), (5, .row 4 70 (row5.map TExt.c))], 6⟩) x4.Ext.length ⟨⟨[(1, .ptr 0 0), (2, .ptr 1 0), (3, .ptr 2 0), (4, .int .i64 (i4 : Int)), (5, .ptr 4 0), (6, .int .i64 (0 : Int))], [(0, .box (TWorld.c w0)), (1, .box [.nils]), (2, .box [.own 3 3 0 row3.length]), (3, .row 3 88 (row3.map TDomain.c)), (4, .box [.int .u32 x4.Tag, .ro 2 (x4.In.map TPrefix.c), .own 5 4 0 ([] : List TExt).length]), (5, .row 4 70 (([] : List TExt).map TExt.c))], 6⟩, Conv.keep [0, 1, 2, 3, 4, 5] [] [1, 2, 3, 4, 5, 6] rfl rfl (viewE_cons rfl rfl (viewE_cons rfl rfl (viewE_cons rfl rfl (viewE_cons rfl rfl (viewE_cons rfl rfl (viewE_cons rfl rfl viewE_nil)))))) rfl rfl, 0, ([] : List TExt), (by omega), rfl, (by ((try simp only [List.length_append, List.length_cons, List.length_nil, decide_eq_true_eq] at *) <;> first | omega | (rw [wrap64_of (by omega) (by omega)]; omega))), hZ_20, rfl⟩ ?_
  rintro _ _ ⟨i6, row5, hi_20, rfl, hinv20_row5, hL_20, rfl⟩ again_20 out_20 Q_20 hagain_20 hout_20 hQ_20
  refine WK.seq ?_
  refine WK.sr mixed ?_
  refine GX.m rfl ?_
  refine GX.q (.ptr 0 0) ?_
  refine GX.q (.ro 3 (w0.D.map TDomain.c)) ?_
  refine GX.m rfl ?_
  refine GX.idxT (c := TDomain.c) (x := x4) rfl rfl rfl (Int.natCast_nonneg _) hx11 ?_
  refine GX.q (.rptr [.ro 4 (x4.Ext.map TExt.c)]) ?_
  refine GX.q (.ro 4 (x4.Ext.map TExt.c)) ?_
  refine GX.pure (v' := .int .i64 (x4.Ext.length : Int)) rfl rfl rfl rfl (len_map _ _) ?_
  refine GX.q (.bool (decide ((i6 : Int) < (x4.Ext.length : Int)))) ?_
  refine GX.done ?_
  rcases bool_two (decide ((i6 : Int) < (x4.Ext.length : Int))) with hb21 | hb21
  ·rw [hb21]
   rw [drop_end hb21, F13_crossroadslaw28_plain_l1] at hL_20
   refine WK.condF rfl ?_
   refine WK.exit ?_
   refine QF.exit (hout_20 _ ?_)
   subst hL_20
   try dsimp only [cond_true, cond_false] at hL_11
   refine WK.conv (st' := ⟨[(1, .ptr 0 0), (2, .ptr 1 0), (3, .ptr 2 0), (4, .int .i64 (i4 : Int)), (5, .ptr 4 0)], [(0, .box (TWorld.c w0)), (1, .box [.nils]), (2, .box [.own 3 3 0 row3.length]), (3, .row 3 88 (row3.map TDomain.c)), (4, .box [.int .u32 x4.Tag, .ro 2 (x4.In.map TPrefix.c), .ro 4 (row5.map TExt.c)])], 5⟩) (Conv.keep [0, 1, 2, 3, 4] [5] [1, 2, 3, 4, 5] rfl rfl (viewE_cons rfl rfl (viewE_cons rfl rfl (viewE_cons rfl rfl (viewE_cons rfl rfl (viewE_cons rfl rfl viewE_nil))))) (subH_cons rfl rfl (subH_cons rfl rfl (subH_cons rfl rfl (subH_cons rfl rfl (subH_cons rfl (viewO_box (viewGo_cons rfl (viewGo_cons rfl (viewGo_cons (view_rowT rfl rfl) viewGo_nil)))) subH_nil))))) rfl) ?_ (by simp)
   refine WK.drawn mixed ?_
   refine RD.pure (v' := .ptr 2 0) rfl rfl rfl rfl rfl ?_
   refine RD.pure (v' := .own 3 3 0 row3.length) rfl rfl rfl rfl rfl ?_
   refine RD.pure (v' := .agg [.int .u32 x4.Tag, .ro 2 (x4.In.map TPrefix.c), .ro 4 (row5.map TExt.c)]) rfl rfl rfl rfl rfl ?_
   refine RD.step (v' := .own 5 3 0 (([(⟨x4.Tag, x4.In, row5⟩ : TDomain)] : List TDomain)).length) (heap' := [(0, .box (TWorld.c w0)), (1, .box [.nils]), (2, .box [.own 3 3 0 row3.length]), (3, .row 3 88 (row3.map TDomain.c)), (4, .box [.int .u32 x4.Tag, .ro 2 (x4.In.map TPrefix.c), .ro 4 (row5.map TExt.c)]), (5, .row 3 88 (([(⟨x4.Tag, x4.In, row5⟩ : TDomain)] : List TDomain).map TDomain.c))]) (next' := 6) rfl rfl rfl rfl rfl rfl rfl ?_
   refine RD.appT (c := TDomain.c) (L := row3) (X := ([(⟨x4.Tag, x4.In, row5⟩ : TDomain)] : List TDomain)) (heap' := [(0, .box (TWorld.c w0)), (1, .box [.nils]), (2, .box [.own 3 3 0 row3.length]), (4, .box [.int .u32 x4.Tag, .ro 2 (x4.In.map TPrefix.c), .ro 4 (row5.map TExt.c)]), (5, .row 3 88 (([(⟨x4.Tag, x4.In, row5⟩ : TDomain)] : List TDomain).map TDomain.c)), (6, .row 3 88 ((row3 ++ ([(⟨x4.Tag, x4.In, row5⟩ : TDomain)] : List TDomain)).map TDomain.c))]) (next' := 7) rfl rfl rfl rfl (elems_own rfl) (by (have h1 := InvW.nD (by assumption); (try simp only [List.length_append, List.length_cons, List.length_nil] at *); omega)) (by ((try simp only [List.length_append, List.length_cons, List.length_nil, List.length_map, decide_eq_true_eq, decide_eq_false_iff_not] at *) <;> omega)) rfl rfl rfl rfl ?_
   refine RD.pure (v' := .ptr 2 0) rfl rfl rfl rfl rfl ?_
   refine RD.step0 (heap' := [(0, .box (TWorld.c w0)), (1, .box [.nils]), (2, .box [.own 6 3 0 (row3 ++ ([(⟨x4.Tag, x4.In, row5⟩ : TDomain)] : List TDomain)).length]), (4, .box [.int .u32 x4.Tag, .ro 2 (x4.In.map TPrefix.c), .ro 4 (row5.map TExt.c)]), (5, .row 3 88 (([(⟨x4.Tag, x4.In, row5⟩ : TDomain)] : List TDomain).map TDomain.c)), (6, .row 3 88 ((row3 ++ ([(⟨x4.Tag, x4.In, row5⟩ : TDomain)] : List TDomain)).map TDomain.c))]) (next' := 7) rfl rfl rfl rfl rfl ?_
   refine RD.done0 ?_
   refine WK.nil (QF.normal (hK13 _ ?_))
   refine WK.regx mixed ?_
   refine GX.m rfl ?_
   refine GX.pure (v' := .int .i64 ((i4 + 1 : Nat) : Int)) rfl rfl rfl rfl (congrArg (PVal.int .i64) (wrap_up hlt11 hlen_11)) ?_
   refine GX.m rfl ?_
   refine GX.done ?_
   refine WK.nil (QF.normal ?_)
   exact hagain_11 _ (w0.D.length - (i4 + 1)) ⟨[(1, .ptr 0 0), (2, .ptr 1 0), (3, .ptr 2 0), (4, .int .i64 ((i4 + 1) : Int))], [(0, .box (TWorld.c w0)), (1, .box [.nils]), (2, .box [.own 3 3 0 (row3 ++ ([(⟨x4.Tag, x4.In, row5⟩ : TDomain)] : List TDomain)).length]), (3, .row 3 88 ((row3 ++ ([(⟨x4.Tag, x4.In, row5⟩ : TDomain)] : List TDomain)).map TDomain.c))], 4⟩ (by omega) (Conv.keep [0, 1, 2, 6] [] [1, 2, 3, 4] rfl rfl (viewE_cons rfl rfl (viewE_cons rfl rfl (viewE_cons rfl rfl (viewE_cons rfl rfl viewE_nil)))) rfl rfl) ⟨i4 + 1, (row3 ++ ([(⟨x4.Tag, x4.In, row5⟩ : TDomain)] : List TDomain)), (by omega), rfl, (by ((try simp only [List.length_append, List.length_cons, List.length_nil, decide_eq_true_eq] at *) <;> first | omega | (rw [wrap64_of (by omega) (by omega)]; omega))), hL_11, rfl⟩
  ·rw [hb21]
   obtain ⟨x6, hx20, hd20, hlt20⟩ := drop_more hb21
   rw [hd20, F13_crossroadslaw28_plain_l1] at hL_20
   refine WK.condT rfl ?_
   refine WK.skip ?_
   refine WK.seq ?_
   refine WK.blockK (fun _ hK22 => ?_)
   refine WK.drawn mixed ?_
   refine RD.q (.ptr 4 2) ?_
   refine RD.q (.own 5 4 0 row5.length) ?_
   refine RD.q (.ptr 0 0) ?_
   refine RD.q (.ro 3 (w0.D.map TDomain.c)) ?_
   refine RD.m rfl ?_
   refine RD.idxT (c := TDomain.c) (x := x4) rfl rfl rfl (Int.natCast_nonneg _) hx11 ?_
   refine RD.q (.rptr [.ro 4 (x4.Ext.map TExt.c)]) ?_
   refine RD.q (.ro 4 (x4.Ext.map TExt.c)) ?_
   refine RD.m rfl ?_
   refine RD.idxT (c := TExt.c) (x := x6) rfl rfl rfl (Int.natCast_nonneg _) hx20 ?_
   refine RD.q (.agg (TExt.c x6)) ?_
   generalize hc50 : F23_crossroadslaw28_ext x6 = c50 at hL_20
   try dsimp only at hL_20
   refine RD.callp (r := .agg [.int .u32 c50.P.A, .int .i64 c50.P.N, .int .u32 c50.Tag, .bool c50.Marked]) rfl rfl rfl (f23_ok x6 _ hc50) rfl rfl ?_
   refine RD.step (v' := .own 6 4 0 (([c50] : List TExt)).length) (heap' := [(0, .box (TWorld.c w0)), (1, .box [.nils]), (2, .box [.own 3 3 0 row3.length]), (3, .row 3 88 (row3.map TDomain.c)), (4, .box [.int .u32 x4.Tag, .ro 2 (x4.In.map TPrefix.c), .own 5 4 0 row5.length]), (5, .row 4 70 (row5.map TExt.c)), (6, .row 4 70 (([c50] : List TExt).map TExt.c))]) (next' := 7) rfl rfl rfl rfl rfl rfl rfl ?_
   refine RD.appT (c := TExt.c) (L := row5) (X := ([c50] : List TExt)) (heap' := [(0, .box (TWorld.c w0)), (1, .box [.nils]), (2, .box [.own 3 3 0 row3.length]), (3, .row 3 88 (row3.map TDomain.c)), (4, .box [.int .u32 x4.Tag, .ro 2 (x4.In.map TPrefix.c), .own 5 4 0 row5.length]), (6, .row 4 70 (([c50] : List TExt).map TExt.c)), (7, .row 4 70 ((row5 ++ ([c50] : List TExt)).map TExt.c))]) (next' := 8) rfl rfl rfl rfl (elems_own rfl) (by (have h1 := (InvW.all (w := w0) (by assumption) x4 (List.mem_of_getElem? (by assumption))).nEx; (try simp only [List.length_append, List.length_cons, List.length_nil] at *); omega)) (by ((try simp only [List.length_append, List.length_cons, List.length_nil, List.length_map, decide_eq_true_eq, decide_eq_false_iff_not] at *) <;> omega)) rfl rfl rfl rfl ?_
   refine RD.q (.ptr 4 2) ?_
   refine RD.step0 (heap' := [(0, .box (TWorld.c w0)), (1, .box [.nils]), (2, .box [.own 3 3 0 row3.length]), (3, .row 3 88 (row3.map TDomain.c)), (4, .box [.int .u32 x4.Tag, .ro 2 (x4.In.map TPrefix.c), .own 7 4 0 (row5 ++ ([c50] : List TExt)).length]), (6, .row 4 70 (([c50] : List TExt).map TExt.c)), (7, .row 4 70 ((row5 ++ ([c50] : List TExt)).map TExt.c))]) (next' := 8) rfl rfl rfl rfl rfl ?_
   refine RD.done rfl ?_
   refine WK.nil (QF.normal (hK22 _ ?_))
   refine WK.regx mixed ?_
   refine GX.m rfl ?_
   refine GX.pure (v' := .int .i64 ((i6 + 1 : Nat) : Int)) rfl rfl rfl rfl (congrArg (PVal.int .i64) (wrap_up hlt20 hlen_20)) ?_
   refine GX.m rfl ?_
   refine GX.done ?_
   refine WK.nil (QF.normal ?_)
   exact hagain_20 _ (x4.Ext.length - (i6 + 1)) ⟨[(1, .ptr 0 0), (2, .ptr 1 0), (3, .ptr 2 0), (4, .int .i64 (i4 : Int)), (5, .ptr 4 0), (6, .int .i64 ((i6 + 1) : Int))], [(0, .box (TWorld.c w0)), (1, .box [.nils]), (2, .box [.own 3 3 0 row3.length]), (3, .row 3 88 (row3.map TDomain.c)), (4, .box [.int .u32 x4.Tag, .ro 2 (x4.In.map TPrefix.c), .own 5 4 0 (row5 ++ ([c50] : List TExt)).length]), (5, .row 4 70 ((row5 ++ ([c50] : List TExt)).map TExt.c))], 6⟩ (by omega) (Conv.keep [0, 1, 2, 3, 4, 7] [] [1, 2, 3, 4, 5, 6] rfl rfl (viewE_cons rfl rfl (viewE_cons rfl rfl (viewE_cons rfl rfl (viewE_cons rfl rfl (viewE_cons rfl rfl (viewE_cons rfl rfl viewE_nil)))))) rfl rfl) ⟨i6 + 1, (row5 ++ ([c50] : List TExt)), (by omega), rfl, (by ((try simp only [List.length_append, List.length_cons, List.length_nil, decide_eq_true_eq] at *) <;> first | omega | (rw [wrap64_of (by omega) (by omega)]; omega))), hL_20, rfl⟩

theorem f14_ok (b0 : TBorder) (R : TBorder) (hR : F14_crossroadslaw28_border b0 = R) : FnOk Try.prog 14 [.agg (TBorder.c b0)] [] 0 (.agg (TBorder.c R)) [] 0 := by
 refine FnOk.wk i14 rfl rfl ?_
 unfold F14_crossroadslaw28_border at hR
 change WK _ _ _ [ac14] _ ⟨[(0, .agg (TBorder.c b0))], [], 0⟩
 unfold ac14
 refine WK.sr mixed ?_
 refine GX.step (v' := .ptr 0 0) (heap' := [(0, .box (TBorder.c b0))]) (next' := 1) rfl rfl rfl rfl rfl rfl rfl ?_
 refine GX.step (v' := .ptr 1 0) (heap' := [(0, .box (TBorder.c b0)), (1, .box [.int .i64 0, .int .i64 0, .bool false])]) (next' := 2) rfl rfl rfl rfl rfl rfl rfl ?_
 refine GX.done ?_
 refine WK.sr mixed ?_
 refine GX.q (.ptr 0 0) ?_
 refine GX.q (.int .i64 b0.From) ?_
 refine GX.q (.ptr 0 1) ?_
 refine GX.q (.int .i64 b0.To) ?_
 refine GX.q (.ptr 0 2) ?_
 refine GX.q (.bool b0.Provider) ?_
 refine GX.q (.agg (TBorder.c b0)) ?_
 refine GX.step0 (heap' := [(0, .box (TBorder.c b0)), (1, .box (TBorder.c b0))]) (next' := 2) rfl rfl rfl rfl rfl ?_
 refine GX.done ?_
 refine WK.ret ?_
 subst hR
 exact RetQ.fr [] (.inr rfl) rfl rfl rfl rfl

theorem f60_ok (a0 : Int) (i1 : Int) (R : Int) (hR : F60_crossroadsref03_Bit a0 i1 = R) : FnOk Try.prog 60 [.int .u32 a0, .int .i64 i1] [] 0 (.int .i64 R) [] 0 := by
 refine FnOk.wk i60 rfl rfl ?_
 unfold F60_crossroadsref03_Bit at hR
 change WK _ _ _ [ac60] _ ⟨[(0, .int .u32 a0), (1, .int .i64 i1)], [], 0⟩
 unfold ac60
 refine WK.sr mixed ?_
 refine GX.m rfl ?_
 refine GX.done ?_
 refine WK.seq ?_
 refine WK.sr mixed ?_
 refine GX.m rfl ?_
 refine GX.q (.bool (decide (i1 < 0))) ?_
 refine GX.m rfl ?_
 rcases bool_two (decide (i1 < 0)) with hb1 | hb1
 ·rw [hb1]; try simp only [hb1, cond_true, cond_false, Bool.true_and, Bool.false_and, Bool.true_or, Bool.false_or, Bool.not_true, Bool.not_false] at hR
  refine GX.m rfl ?_
  refine GX.q (.bool (decide (31 < i1))) ?_
  refine GX.q (.bool (decide (31 < i1))) ?_
  refine GX.done ?_
  rcases bool_two (decide (31 < i1)) with hb2 | hb2
  ·rw [hb2]; try simp only [hb2, cond_true, cond_false, Bool.true_and, Bool.false_and, Bool.true_or, Bool.false_or, Bool.not_true, Bool.not_false] at hR
   refine WK.condF rfl ?_
   refine WK.skip ?_
   refine WK.sr mixed ?_
   refine GX.m rfl ?_
   refine GX.m rfl ?_
   refine GX.q (.int .i64 (IntKind.i64.wrap (31 - i1))) ?_
   refine GX.q (.int .u64 (IntKind.u64.wrap (IntKind.i64.wrap (31 - i1)))) ?_
   refine GX.shr rfl rfl rfl (by exact wrap_u64_nonneg _) ?_
   refine GX.q (.int .u32 (bit_and .u32 (shr_ .u32 a0 (IntKind.u64.wrap (IntKind.i64.wrap (31 - i1)))) 1)) ?_
   refine GX.q (.int .i64 (IntKind.i64.wrap (bit_and .u32 (shr_ .u32 a0 (IntKind.u64.wrap (IntKind.i64.wrap (31 - i1)))) 1))) ?_
   refine GX.m rfl ?_
   refine GX.done ?_
   refine WK.ret ?_
   subst hR
   exact RetQ.fr [] (.inr rfl) rfl rfl rfl rfl
  ·rw [hb2]; try simp only [hb2, cond_true, cond_false, Bool.true_and, Bool.false_and, Bool.true_or, Bool.false_or, Bool.not_true, Bool.not_false] at hR
   refine WK.condT rfl ?_
   refine WK.sr mixed ?_
   refine GX.m rfl ?_
   refine GX.done ?_
   refine WK.ret ?_
   subst hR
   exact RetQ.fr [] (.inr rfl) rfl rfl rfl rfl
 ·rw [hb1]; try simp only [hb1, cond_true, cond_false, Bool.true_and, Bool.false_and, Bool.true_or, Bool.false_or, Bool.not_true, Bool.not_false] at hR
  refine GX.skip rfl rfl ?_
  refine GX.skip rfl rfl ?_
  refine GX.q (.bool true) ?_
  refine GX.done ?_
  refine WK.condT rfl ?_
  refine WK.sr mixed ?_
  refine GX.m rfl ?_
  refine GX.done ?_
  refine WK.ret ?_
  subst hR
  exact RetQ.fr [] (.inr rfl) rfl rfl rfl rfl

theorem f37_ok (p0 : TPrefix) (R : Bool) (hR : F37_crossroadsref03_May p0 = R) : FnOk Try.prog 37 [.agg (TPrefix.c p0)] [] 0 (.bool R) [] 0 := by
 refine FnOk.wk i37 rfl rfl ?_
 unfold F37_crossroadsref03_May at hR
 change WK _ _ _ [ac37] _ ⟨[(0, .agg (TPrefix.c p0))], [], 0⟩
 unfold ac37
 refine WK.sr mixed ?_
 refine GX.step (v' := .ptr 0 0) (heap' := [(0, .box (TPrefix.c p0))]) (next' := 1) rfl rfl rfl rfl rfl rfl rfl ?_
 refine GX.m rfl ?_
 refine GX.done ?_
 refine WK.seq ?_
 refine WK.sr mixed ?_
 refine GX.q (.ptr 0 1) ?_
 refine GX.q (.int .i64 p0.N) ?_
 refine GX.q (.bool (decide (p0.N < 0))) ?_
 refine GX.m rfl ?_
 rcases bool_two (decide (p0.N < 0)) with hb1 | hb1
 ·rw [hb1]; try simp only [hb1, cond_true, cond_false, Bool.true_and, Bool.false_and, Bool.true_or, Bool.false_or, Bool.not_true, Bool.not_false] at hR
  refine GX.q (.ptr 0 1) ?_
  refine GX.q (.int .i64 p0.N) ?_
  refine GX.q (.bool (decide (32 < p0.N))) ?_
  refine GX.q (.bool (decide (32 < p0.N))) ?_
  refine GX.done ?_
  rcases bool_two (decide (32 < p0.N)) with hb2 | hb2
  ·rw [hb2]; try simp only [hb2, cond_true, cond_false, Bool.true_and, Bool.false_and, Bool.true_or, Bool.false_or, Bool.not_true, Bool.not_false] at hR
   refine WK.condF rfl ?_
   refine WK.skip ?_
   refine WK.seq ?_
   refine WK.sr mixed ?_
   refine GX.q (.ptr 0 1) ?_
   refine GX.q (.int .i64 p0.N) ?_
   refine GX.m rfl ?_
   refine GX.done ?_
   generalize hZ_3 : F37_crossroadsref03_May_l1 p0 (fuelUp p0.N 32) p0.N = Z_3 at hR
   refine WK.forK (fun k s => ∃ (i3 : Int), fuelUp i3 32 ≤ k ∧ F37_crossroadsref03_May_l1 p0 k i3 = Z_3 ∧ s = ⟨[(1, .ptr 0 0), (3, .int .i64 i3)], [(0, .box (TPrefix.c p0))], 1⟩) (fuelUp p0.N 32) ⟨⟨[(1, .ptr 0 0), (3, .int .i64 p0.N)], [(0, .box (TPrefix.c p0))], 1⟩, Conv.keep [0] [] [1, 3] rfl rfl (viewE_cons rfl rfl (viewE_cons rfl rfl viewE_nil)) rfl rfl, p0.N, Nat.le_refl _, hZ_3, rfl⟩ ?_
   rintro k3 _ ⟨i3, hfu3, hL_3, rfl⟩ again_3 out_3 Q_3 hagain_3 hout_3 hQ_3
   refine WK.seq ?_
   refine WK.sr mixed ?_
   refine GX.m rfl ?_
   refine GX.q (.bool (decide (i3 < 32))) ?_
   refine GX.done ?_
   rcases bool_two (decide (i3 < 32)) with hb4 | hb4
   ·rw [hb4]
    unfold F37_crossroadsref03_May_l1 at hL_3; rw [hb4, cond_false] at hL_3
    refine WK.condF rfl ?_
    refine WK.exit ?_
    refine QF.exit (hout_3 _ ?_)
    subst hL_3
    try dsimp only [cond_true, cond_false] at hR
    refine WK.sr mixed ?_
    refine GX.m rfl ?_
    refine GX.done ?_
    refine WK.ret ?_
    subst hR
    exact RetQ.fr [] (.inr rfl) rfl rfl rfl rfl
   ·rw [hb4]
    obtain ⟨f3, rfl⟩ := fuel_pos hb4 hfu3
    unfold F37_crossroadsref03_May_l1 at hL_3; rw [hb4, cond_true] at hL_3; dsimp only at hL_3
    refine WK.condT rfl ?_
    refine WK.skip ?_
    refine WK.seq ?_
    refine WK.blockK (fun _ hK5 => ?_)
    refine WK.sr mixed ?_
    refine GX.q (.ptr 0 0) ?_
    refine GX.q (.int .u32 p0.A) ?_
    refine GX.m rfl ?_
    generalize hc21 : F60_crossroadsref03_Bit p0.A i3 = c21 at hL_3
    try dsimp only at hL_3
    refine GX.callp (r := .int .i64 c21) rfl rfl rfl (f60_ok p0.A i3 _ hc21) rfl rfl ?_
    refine GX.q (.bool (decide (c21 = 1))) ?_
    refine GX.done ?_
    rcases bool_two (decide (c21 = 1)) with hb6 | hb6
    ·rw [hb6]; try simp only [hb6, cond_true, cond_false, Bool.true_and, Bool.false_and, Bool.true_or, Bool.false_or, Bool.not_true, Bool.not_false] at hL_3
     refine WK.condF rfl ?_
     refine WK.skip ?_
     refine WK.nil (QF.normal (hK5 _ ?_))
     refine WK.regx mixed ?_
     refine GX.m rfl ?_
     refine GX.q (.int .i64 (IntKind.i64.wrap (i3 + 1))) ?_
     refine GX.m rfl ?_
     refine GX.done ?_
     refine WK.nil (QF.normal ?_)
     exact hagain_3 _ f3 ⟨[(1, .ptr 0 0), (3, .int .i64 (IntKind.i64.wrap (i3 + 1)))], [(0, .box (TPrefix.c p0))], 1⟩ (Nat.lt_succ_self _) (Conv.keep [0] [] [1, 3] rfl rfl (viewE_cons rfl rfl (viewE_cons rfl rfl viewE_nil)) rfl rfl) ⟨(IntKind.i64.wrap (i3 + 1)), fuel_up hb4 (by decide) hfu3, hL_3, rfl⟩
    ·rw [hb6]; try simp only [hb6, cond_true, cond_false, Bool.true_and, Bool.false_and, Bool.true_or, Bool.false_or, Bool.not_true, Bool.not_false] at hL_3
     refine WK.condT rfl ?_
     refine WK.sr mixed ?_
     refine GX.m rfl ?_
     refine GX.done ?_
     refine WK.ret ?_
     refine QF.ret ?_
     refine QF.ret (hQ_3 _ _ ?_)
     subst hL_3
     subst hR
     exact RetQ.fr [] (.inr rfl) rfl rfl rfl rfl
  ·rw [hb2]; try simp only [hb2, cond_true, cond_false, Bool.true_and, Bool.false_and, Bool.true_or, Bool.false_or, Bool.not_true, Bool.not_false] at hR
   refine WK.condT rfl ?_
   refine WK.sr mixed ?_
   refine GX.m rfl ?_
   refine GX.done ?_
   refine WK.ret ?_
   subst hR
   exact RetQ.fr [] (.inr rfl) rfl rfl rfl rfl
 ·rw [hb1]; try simp only [hb1, cond_true, cond_false, Bool.true_and, Bool.false_and, Bool.true_or, Bool.false_or, Bool.not_true, Bool.not_false] at hR
  refine GX.skip rfl rfl ?_
  refine GX.skip rfl rfl ?_
  refine GX.skip rfl rfl ?_
  refine GX.q (.bool true) ?_
  refine GX.done ?_
  refine WK.condT rfl ?_
  refine WK.sr mixed ?_
  refine GX.m rfl ?_
  refine GX.done ?_
  refine WK.ret ?_
  subst hR
  exact RetQ.fr [] (.inr rfl) rfl rfl rfl rfl

theorem f38_ok (d0 : TDomain) (p1 : TPrefix) (R : Bool) (hR : F38_crossroadsref28_owns d0 p1 = R) : FnOk Try.prog 38 [.agg (TDomain.c d0), .agg (TPrefix.c p1)] [] 0 (.bool R) [] 0 := by
 refine FnOk.wk i38 rfl rfl ?_
 unfold F38_crossroadsref28_owns at hR
 change WK _ _ _ [ac38] _ ⟨[(0, .agg (TDomain.c d0)), (1, .agg (TPrefix.c p1))], [], 0⟩
 unfold ac38
 refine WK.sr mixed ?_
 refine GX.step (v' := .ptr 0 0) (heap' := [(0, .box (TDomain.c d0))]) (next' := 1) rfl rfl rfl rfl rfl rfl rfl ?_
 refine GX.step (v' := .ptr 1 0) (heap' := [(0, .box (TDomain.c d0)), (1, .box (TPrefix.c p1))]) (next' := 2) rfl rfl rfl rfl rfl rfl rfl ?_
 refine GX.m rfl ?_
 refine GX.done ?_
 refine WK.seq ?_
 refine WK.sr mixed ?_
 refine GX.m rfl ?_
 refine GX.done ?_
 refine WK.lenb (id := 0) (j := 1) rfl rfl (by simp) (fun hlen_1 => ?_)
 rw [List.length_map] at hlen_1
 generalize hZ_1 : F38_crossroadsref28_owns_l1 p1 d0.In = Z_1 at hR
 refine WK.forK (fun k s => ∃ (i5 : Nat), i5 ≤ d0.In.length ∧ k = d0.In.length - i5 ∧ F38_crossroadsref28_owns_l1 p1 (d0.In.drop i5) = Z_1 ∧ s = ⟨[(2, .ptr 0 0), (3, .ptr 1 0), (5, .int .i64 (i5 : Int))], [(0, .box (TDomain.c d0)), (1, .box (TPrefix.c p1))], 2⟩) d0.In.length ⟨⟨[(2, .ptr 0 0), (3, .ptr 1 0), (5, .int .i64 (0 : Int))], [(0, .box (TDomain.c d0)), (1, .box (TPrefix.c p1))], 2⟩, Conv.keep [0, 1] [] [2, 3, 5] rfl rfl (viewE_cons rfl rfl (viewE_cons rfl rfl (viewE_cons rfl rfl viewE_nil))) rfl rfl, 0, (by omega), rfl, hZ_1, rfl⟩ ?_
 rintro _ _ ⟨i5, hi_1, rfl, hL_1, rfl⟩ again_1 out_1 Q_1 hagain_1 hout_1 hQ_1
 refine WK.seq ?_
 refine WK.sr mixed ?_
 refine GX.m rfl ?_
 refine GX.q (.ptr 0 1) ?_
 refine GX.q (.ro 2 (d0.In.map TPrefix.c)) ?_
 refine GX.pure (v' := .int .i64 (d0.In.length : Int)) rfl rfl rfl rfl (len_map _ _) ?_
 refine GX.q (.bool (decide ((i5 : Int) < (d0.In.length : Int)))) ?_
 refine GX.done ?_
 rcases bool_two (decide ((i5 : Int) < (d0.In.length : Int))) with hb2 | hb2
 ·rw [hb2]
  rw [drop_end hb2, F38_crossroadsref28_owns_l1] at hL_1
  refine WK.condF rfl ?_
  refine WK.exit ?_
  refine QF.exit (hout_1 _ ?_)
  subst hL_1
  try dsimp only [cond_true, cond_false] at hR
  refine WK.sr mixed ?_
  refine GX.m rfl ?_
  refine GX.done ?_
  refine WK.ret ?_
  subst hR
  exact RetQ.fr [] (.inr rfl) rfl rfl rfl rfl
 ·rw [hb2]
  obtain ⟨x5, hx1, hd1, hlt1⟩ := drop_more hb2
  rw [hd1, F38_crossroadsref28_owns_l1] at hL_1
  refine WK.condT rfl ?_
  refine WK.skip ?_
  refine WK.seq ?_
  refine WK.blockK (fun _ hK3 => ?_)
  refine WK.seq ?_
  refine WK.drawn mixed ?_
  refine RD.q (.ptr 0 1) ?_
  refine RD.q (.ro 2 (d0.In.map TPrefix.c)) ?_
  refine RD.m rfl ?_
  refine RD.idxT (c := TPrefix.c) (x := x5) rfl rfl rfl (Int.natCast_nonneg _) hx1 ?_
  refine RD.q (.agg (TPrefix.c x5)) ?_
  refine RD.q (.agg (TPrefix.c p1)) ?_
  refine RD.q (.bool (decide (x5.A = p1.A) && (decide (x5.N = p1.N) && true))) ?_
  refine RD.done rfl ?_
  rcases bool_two ((decide (x5.A = p1.A) && (decide (x5.N = p1.N) && true))) with hb4 | hb4
  ·rw [hb4]; try simp only [hb4, cond_true, cond_false, Bool.true_and, Bool.false_and, Bool.true_or, Bool.false_or, Bool.not_true, Bool.not_false] at hL_1
   refine WK.condF rfl ?_
   refine WK.skip ?_
   refine WK.nil (QF.normal (hK3 _ ?_))
   refine WK.regx mixed ?_
   refine GX.m rfl ?_
   refine GX.pure (v' := .int .i64 ((i5 + 1 : Nat) : Int)) rfl rfl rfl rfl (congrArg (PVal.int .i64) (wrap_up hlt1 hlen_1)) ?_
   refine GX.m rfl ?_
   refine GX.done ?_
   refine WK.nil (QF.normal ?_)
   exact hagain_1 _ (d0.In.length - (i5 + 1)) ⟨[(2, .ptr 0 0), (3, .ptr 1 0), (5, .int .i64 ((i5 + 1) : Int))], [(0, .box (TDomain.c d0)), (1, .box (TPrefix.c p1))], 2⟩ (by omega) (Conv.keep [0, 1] [] [2, 3, 5] rfl rfl (viewE_cons rfl rfl (viewE_cons rfl rfl (viewE_cons rfl rfl viewE_nil))) rfl rfl) ⟨i5 + 1, (by omega), rfl, hL_1, rfl⟩
  ·rw [hb4]; try simp only [hb4, cond_true, cond_false, Bool.true_and, Bool.false_and, Bool.true_or, Bool.false_or, Bool.not_true, Bool.not_false] at hL_1
   refine WK.condT rfl ?_
   refine WK.sr mixed ?_
   refine GX.m rfl ?_
   refine GX.done ?_
   refine WK.ret ?_
   refine QF.ret ?_
   refine QF.ret (hQ_1 _ _ ?_)
   subst hL_1
   subst hR
   exact RetQ.fr [] (.inr rfl) rfl rfl rfl rfl

theorem f39_ok (p0 : TPrefix) (q1 : TPrefix) (R : Bool) (hR : F39_crossroadsref03_Less p0 q1 = R) : FnOk Try.prog 39 [.agg (TPrefix.c p0), .agg (TPrefix.c q1)] [] 0 (.bool R) [] 0 := by
 refine FnOk.wk i39 rfl rfl ?_
 unfold F39_crossroadsref03_Less at hR
 change WK _ _ _ [ac39] _ ⟨[(0, .agg (TPrefix.c p0)), (1, .agg (TPrefix.c q1))], [], 0⟩
 unfold ac39
 refine WK.sr mixed ?_
 refine GX.step (v' := .ptr 0 0) (heap' := [(0, .box (TPrefix.c p0))]) (next' := 1) rfl rfl rfl rfl rfl rfl rfl ?_
 refine GX.step (v' := .ptr 1 0) (heap' := [(0, .box (TPrefix.c p0)), (1, .box (TPrefix.c q1))]) (next' := 2) rfl rfl rfl rfl rfl rfl rfl ?_
 refine GX.m rfl ?_
 refine GX.done ?_
 refine WK.sr mixed ?_
 refine GX.q (.ptr 0 0) ?_
 refine GX.q (.int .u32 p0.A) ?_
 refine GX.q (.ptr 1 0) ?_
 refine GX.q (.int .u32 q1.A) ?_
 refine GX.q (.bool (decide (p0.A < q1.A))) ?_
 refine GX.m rfl ?_
 rcases bool_two (decide (p0.A < q1.A)) with hb1 | hb1
 ·rw [hb1]; try simp only [hb1, cond_true, cond_false, Bool.true_and, Bool.false_and, Bool.true_or, Bool.false_or, Bool.not_true, Bool.not_false] at hR
  refine GX.q (.ptr 0 0) ?_
  refine GX.q (.int .u32 p0.A) ?_
  refine GX.q (.ptr 1 0) ?_
  refine GX.q (.int .u32 q1.A) ?_
  refine GX.q (.bool (decide (p0.A = q1.A))) ?_
  refine GX.m rfl ?_
  rcases bool_two (decide (p0.A = q1.A)) with hb2 | hb2
  ·rw [hb2]; try simp only [hb2, cond_true, cond_false, Bool.true_and, Bool.false_and, Bool.true_or, Bool.false_or, Bool.not_true, Bool.not_false] at hR
   refine GX.skip rfl rfl ?_
   refine GX.skip rfl rfl ?_
   refine GX.skip rfl rfl ?_
   refine GX.skip rfl rfl ?_
   refine GX.skip rfl rfl ?_
   refine GX.q (.bool false) ?_
   refine GX.q (.bool false) ?_
   refine GX.m rfl ?_
   refine GX.done ?_
   refine WK.ret ?_
   subst hR
   exact RetQ.fr [] (.inr rfl) rfl rfl rfl rfl
  ·rw [hb2]; try simp only [hb2, cond_true, cond_false, Bool.true_and, Bool.false_and, Bool.true_or, Bool.false_or, Bool.not_true, Bool.not_false] at hR
   refine GX.q (.ptr 0 1) ?_
   refine GX.q (.int .i64 p0.N) ?_
   refine GX.q (.ptr 1 1) ?_
   refine GX.q (.int .i64 q1.N) ?_
   refine GX.q (.bool (decide (p0.N < q1.N))) ?_
   refine GX.q (.bool (decide (p0.N < q1.N))) ?_
   refine GX.q (.bool (decide (p0.N < q1.N))) ?_
   refine GX.m rfl ?_
   refine GX.done ?_
   refine WK.ret ?_
   subst hR
   exact RetQ.fr [] (.inr rfl) rfl rfl rfl rfl
 ·rw [hb1]; try simp only [hb1, cond_true, cond_false, Bool.true_and, Bool.false_and, Bool.true_or, Bool.false_or, Bool.not_true, Bool.not_false] at hR
  refine GX.skip rfl rfl ?_
  refine GX.skip rfl rfl ?_
  refine GX.skip rfl rfl ?_
  refine GX.skip rfl rfl ?_
  refine GX.skip rfl rfl ?_
  refine GX.skip rfl rfl ?_
  refine GX.skip rfl rfl ?_
  refine GX.skip rfl rfl ?_
  refine GX.skip rfl rfl ?_
  refine GX.skip rfl rfl ?_
  refine GX.skip rfl rfl ?_
  refine GX.skip rfl rfl ?_
  refine GX.q (.bool true) ?_
  refine GX.m rfl ?_
  refine GX.done ?_
  refine WK.ret ?_
  subst hR
  exact RetQ.fr [] (.inr rfl) rfl rfl rfl rfl

theorem f40_ok (l0 : List TExt) (p1 : TPrefix) (hp0 : l0.length ≤ 1000) (R : (List TExt)) (hR : F40_crossroadsref28_without l0 p1 = R) : FnOk Try.prog 40 [.ro 4 (l0.map TExt.c), .agg (TPrefix.c p1)] [] 0 (.ro 4 (R.map TExt.c)) [] 0 := by
 refine FnOk.wk i40 rfl rfl ?_
 unfold F40_crossroadsref28_without at hR
 change WK _ _ _ [ac40] _ ⟨[(0, .ro 4 (l0.map TExt.c)), (1, .agg (TPrefix.c p1))], [], 0⟩
 unfold ac40
 refine WK.sr mixed ?_
 refine GX.step (v' := .ptr 0 0) (heap' := [(0, .box (TPrefix.c p1))]) (next' := 1) rfl rfl rfl rfl rfl rfl rfl ?_
 refine GX.m rfl ?_
 refine GX.done ?_
 refine WK.sr mixed ?_
 refine GX.step (v' := .own 1 4 0 (([] : List TExt)).length) (heap' := [(0, .box (TPrefix.c p1)), (1, .row 4 70 (([] : List TExt).map TExt.c))]) (next' := 2) rfl rfl rfl rfl rfl rfl rfl ?_
 refine GX.m rfl ?_
 refine GX.done ?_
 refine WK.seq ?_
 refine WK.sr mixed ?_
 refine GX.m rfl ?_
 refine GX.done ?_
 refine WK.len (t := 0) rfl (by simp) (fun hlen_5 => ?_)
 rw [List.length_map] at hlen_5
 generalize hZ_5 : F40_crossroadsref28_without_l1 p1 ([] : List TExt) l0 = Z_5 at hR
 refine WK.forK (fun k s => ∃ (i6 : Nat) (out5 : List TExt), i6 ≤ l0.length ∧ k = l0.length - i6 ∧ out5.length ≤ i6 + 0 ∧ F40_crossroadsref28_without_l1 p1 out5 (l0.drop i6) = Z_5 ∧ s = ⟨[(0, .ro 4 (l0.map TExt.c)), (3, .ptr 0 0), (5, .own 1 4 0 out5.length), (6, .int .i64 (i6 : Int))], [(0, .box (TPrefix.c p1)), (1, .row 4 70 (out5.map TExt.c))], 2⟩) l0.length ⟨⟨[(0, .ro 4 (l0.map TExt.c)), (3, .ptr 0 0), (5, .own 1 4 0 ([] : List TExt).length), (6, .int .i64 (0 : Int))], [(0, .box (TPrefix.c p1)), (1, .row 4 70 (([] : List TExt).map TExt.c))], 2⟩, Conv.keep [0, 1] [] [0, 3, 5, 6] rfl rfl (viewE_cons rfl rfl (viewE_cons rfl rfl (viewE_cons rfl rfl (viewE_cons rfl rfl viewE_nil)))) rfl rfl, 0, ([] : List TExt), (by omega), rfl, (by ((try simp only [List.length_append, List.length_cons, List.length_nil, decide_eq_true_eq] at *) <;> first | omega | (rw [wrap64_of (by omega) (by omega)]; omega))), hZ_5, rfl⟩ ?_
 rintro _ _ ⟨i6, out5, hi_5, rfl, hinv5_out5, hL_5, rfl⟩ again_5 out_5 Q_5 hagain_5 hout_5 hQ_5
 refine WK.seq ?_
 refine WK.sr mixed ?_
 refine GX.m rfl ?_
 refine GX.m rfl ?_
 refine GX.pure (v' := .int .i64 (l0.length : Int)) rfl rfl rfl rfl (len_map _ _) ?_
 refine GX.q (.bool (decide ((i6 : Int) < (l0.length : Int)))) ?_
 refine GX.done ?_
 rcases bool_two (decide ((i6 : Int) < (l0.length : Int))) with hb6 | hb6
 ·rw [hb6]
  rw [drop_end hb6, F40_crossroadsref28_without_l1] at hL_5
  refine WK.condF rfl ?_
  refine WK.exit ?_
  refine QF.exit (hout_5 _ ?_)
  subst hL_5
  try dsimp only [cond_true, cond_false] at hR
  refine WK.sr mixed ?_
  refine GX.m rfl ?_
  refine GX.m rfl ?_
  refine GX.done ?_
  refine WK.ret ?_
  subst hR
  exact RetQ.fr [1] (.inr rfl) rfl rfl (viewGo_cons (view_rowT rfl rfl) viewGo_nil) rfl
 ·rw [hb6]
  obtain ⟨x6, hx5, hd5, hlt5⟩ := drop_more hb6
  rw [hd5, F40_crossroadsref28_without_l1] at hL_5
  refine WK.condT rfl ?_
  refine WK.skip ?_
  refine WK.seq ?_
  refine WK.blockK (fun _ hK7 => ?_)
  refine WK.seq ?_
  refine WK.drawn mixed ?_
  refine RD.m rfl ?_
  refine RD.m rfl ?_
  refine RD.idxT (c := TExt.c) (x := x6) rfl rfl rfl (Int.natCast_nonneg _) hx5 ?_
  refine RD.q (.rptr (TExt.c x6)) ?_
  refine RD.q (.agg [.int .u32 x6.P.A, .int .i64 x6.P.N]) ?_
  refine RD.q (.agg (TPrefix.c p1)) ?_
  refine RD.q (.bool (!(decide (x6.P.A = p1.A) && (decide (x6.P.N = p1.N) && true)))) ?_
  refine RD.done rfl ?_
  rcases bool_two (decide (x6.P.A = p1.A) && (decide (x6.P.N = p1.N) && true)) with hb8 | hb8
  ·rw [hb8]; try simp only [hb8, cond_true, cond_false, Bool.true_and, Bool.false_and, Bool.true_or, Bool.false_or, Bool.not_true, Bool.not_false] at hL_5
   refine WK.condT rfl ?_
   refine WK.regx mixed ?_
   refine GX.m rfl ?_
   refine GX.m rfl ?_
   refine GX.m rfl ?_
   refine GX.idxT (c := TExt.c) (x := x6) rfl rfl rfl (Int.natCast_nonneg _) hx5 ?_
   refine GX.q (.agg (TExt.c x6)) ?_
   refine GX.step (v' := .own 2 4 0 (([x6] : List TExt)).length) (heap' := [(0, .box (TPrefix.c p1)), (1, .row 4 70 (out5.map TExt.c)), (2, .row 4 70 (([x6] : List TExt).map TExt.c))]) (next' := 3) rfl rfl rfl rfl rfl rfl rfl ?_
   refine GX.appT (c := TExt.c) (L := out5) (X := ([x6] : List TExt)) (heap' := [(0, .box (TPrefix.c p1)), (2, .row 4 70 (([x6] : List TExt).map TExt.c)), (3, .row 4 70 ((out5 ++ ([x6] : List TExt)).map TExt.c))]) (next' := 4) rfl rfl rfl rfl (elems_own rfl) (by ((try simp only [List.length_append, List.length_cons, List.length_nil, List.length_map, decide_eq_true_eq, decide_eq_false_iff_not] at *) <;> omega)) (by ((try simp only [List.length_append, List.length_cons, List.length_nil, List.length_map, decide_eq_true_eq, decide_eq_false_iff_not] at *) <;> omega)) rfl rfl rfl rfl ?_
   refine GX.m rfl ?_
   refine GX.done ?_
   refine WK.nil (QF.normal (hK7 _ ?_))
   refine WK.regx mixed ?_
   refine GX.m rfl ?_
   refine GX.pure (v' := .int .i64 ((i6 + 1 : Nat) : Int)) rfl rfl rfl rfl (congrArg (PVal.int .i64) (wrap_up hlt5 hlen_5)) ?_
   refine GX.m rfl ?_
   refine GX.done ?_
   refine WK.nil (QF.normal ?_)
   exact hagain_5 _ (l0.length - (i6 + 1)) ⟨[(0, .ro 4 (l0.map TExt.c)), (3, .ptr 0 0), (5, .own 1 4 0 (out5 ++ ([x6] : List TExt)).length), (6, .int .i64 ((i6 + 1) : Int))], [(0, .box (TPrefix.c p1)), (1, .row 4 70 ((out5 ++ ([x6] : List TExt)).map TExt.c))], 2⟩ (by omega) (Conv.keep [0, 3] [] [0, 3, 5, 6] rfl rfl (viewE_cons rfl rfl (viewE_cons rfl rfl (viewE_cons rfl rfl (viewE_cons rfl rfl viewE_nil)))) rfl rfl) ⟨i6 + 1, (out5 ++ ([x6] : List TExt)), (by omega), rfl, (by ((try simp only [List.length_append, List.length_cons, List.length_nil, decide_eq_true_eq] at *) <;> first | omega | (rw [wrap64_of (by omega) (by omega)]; omega))), hL_5, rfl⟩
  ·rw [hb8]; try simp only [hb8, cond_true, cond_false, Bool.true_and, Bool.false_and, Bool.true_or, Bool.false_or, Bool.not_true, Bool.not_false] at hL_5
   refine WK.condF rfl ?_
   refine WK.skip ?_
   refine WK.nil (QF.normal (hK7 _ ?_))
   refine WK.regx mixed ?_
   refine GX.m rfl ?_
   refine GX.pure (v' := .int .i64 ((i6 + 1 : Nat) : Int)) rfl rfl rfl rfl (congrArg (PVal.int .i64) (wrap_up hlt5 hlen_5)) ?_
   refine GX.m rfl ?_
   refine GX.done ?_
   refine WK.nil (QF.normal ?_)
   exact hagain_5 _ (l0.length - (i6 + 1)) ⟨[(0, .ro 4 (l0.map TExt.c)), (3, .ptr 0 0), (5, .own 1 4 0 out5.length), (6, .int .i64 ((i6 + 1) : Int))], [(0, .box (TPrefix.c p1)), (1, .row 4 70 (out5.map TExt.c))], 2⟩ (by omega) (Conv.keep [0, 1] [] [0, 3, 5, 6] rfl rfl (viewE_cons rfl rfl (viewE_cons rfl rfl (viewE_cons rfl rfl (viewE_cons rfl rfl viewE_nil)))) rfl rfl) ⟨i6 + 1, out5, (by omega), rfl, (by omega), hL_5, rfl⟩

theorem f41_ok (w0 : TWorld) (i1 : Int) (d2 : TDomain) (hp0 : w0.D.length ≤ 1000) (hp1 : 0 ≤ i1) (hp2 : i1 < (w0.D.length : Int)) (R : TWorld) (hR : F41_crossroadsref28_with w0 i1 d2 = R) : FnOk Try.prog 41 [.agg (TWorld.c w0), .int .i64 i1, .agg (TDomain.c d2)] [] 0 (.agg (TWorld.c R)) [] 0 := by
 refine FnOk.wk i41 rfl rfl ?_
 unfold F41_crossroadsref28_with at hR
 change WK _ _ _ [ac41] _ ⟨[(0, .agg (TWorld.c w0)), (1, .int .i64 i1), (2, .agg (TDomain.c d2))], [], 0⟩
 unfold ac41
 refine WK.sr mixed ?_
 refine GX.step (v' := .ptr 0 0) (heap' := [(0, .box (TWorld.c w0))]) (next' := 1) rfl rfl rfl rfl rfl rfl rfl ?_
 refine GX.step (v' := .ptr 1 0) (heap' := [(0, .box (TWorld.c w0)), (1, .box (TDomain.c d2))]) (next' := 2) rfl rfl rfl rfl rfl rfl rfl ?_
 refine GX.step (v' := .ptr 2 0) (heap' := [(0, .box (TWorld.c w0)), (1, .box (TDomain.c d2)), (2, .box [.nils])]) (next' := 3) rfl rfl rfl rfl rfl rfl rfl ?_
 refine GX.done ?_
 refine WK.sr mixed ?_
 refine GX.step (v' := .own 3 3 0 (([] : List TDomain)).length) (heap' := [(0, .box (TWorld.c w0)), (1, .box (TDomain.c d2)), (2, .box [.nils]), (3, .row 3 88 (([] : List TDomain).map TDomain.c))]) (next' := 4) rfl rfl rfl rfl rfl rfl rfl ?_
 refine GX.q (.ptr 0 0) ?_
 refine GX.q (.ro 3 (w0.D.map TDomain.c)) ?_
 refine GX.appT (c := TDomain.c) (L := ([] : List TDomain)) (X := w0.D) (heap' := [(0, .box (TWorld.c w0)), (1, .box (TDomain.c d2)), (2, .box [.nils]), (4, .row 3 88 (w0.D.map TDomain.c))]) (next' := 5) rfl rfl rfl rfl elems_ro (by ((try simp only [List.length_append, List.length_cons, List.length_nil, List.length_map, decide_eq_true_eq, decide_eq_false_iff_not] at *) <;> omega)) (by ((try simp only [List.length_append, List.length_cons, List.length_nil, List.length_map, decide_eq_true_eq, decide_eq_false_iff_not] at *) <;> omega)) rfl rfl rfl rfl ?_
 refine GX.q (.ptr 0 0) ?_
 refine GX.step0 (heap' := [(0, .box [.own 4 3 0 w0.D.length]), (1, .box (TDomain.c d2)), (2, .box [.nils]), (4, .row 3 88 (w0.D.map TDomain.c))]) (next' := 5) rfl rfl rfl rfl rfl ?_
 refine GX.done ?_
 refine WK.sr mixed ?_
 refine GX.q (.ptr 0 0) ?_
 refine GX.q (.own 4 3 0 w0.D.length) ?_
 refine GX.m rfl ?_
 refine GX.q (.agg (TDomain.c d2)) ?_
 refine GX.pure (v' := .eptr 4 3 i1.toNat 0) rfl rfl rfl (core_idxoT (c := TDomain.c) (L := w0.D) (j := i1.toNat) rfl (by omega) (by omega) (by exact Nat.le_refl _)) rfl ?_
 refine GX.step0 (heap' := [(0, .box [.own 4 3 0 w0.D.length]), (1, .box (TDomain.c d2)), (2, .box [.nils]), (4, .row 3 88 ((w0.D.set i1.toNat d2).map TDomain.c))]) (next' := 5) rfl rfl (core_stoT (c := TDomain.c) (L := w0.D) (x := (w0.D.getD i1.toNat default)) (x' := d2) rfl (getD_at (by omega)) rfl rfl rfl rfl rfl) rfl rfl ?_
 refine GX.done ?_
 refine WK.sr mixed ?_
 refine GX.q (.agg [.own 4 3 0 w0.D.length]) ?_
 refine GX.step0 (heap' := [(0, .box [.own 4 3 0 w0.D.length]), (1, .box (TDomain.c d2)), (2, .box [.own 4 3 0 w0.D.length]), (4, .row 3 88 ((w0.D.set i1.toNat d2).map TDomain.c))]) (next' := 5) rfl rfl rfl rfl rfl ?_
 refine GX.done ?_
 refine WK.ret ?_
 subst hR
 exact RetQ.fr [4] (.inr rfl) rfl rfl (viewGo_cons (viewP_agg (viewGo_cons (view_rowM rfl rfl (by simp)) viewGo_nil)) viewGo_nil) rfl

theorem f22_ok (w0 : TWorld) (d1 : Int) (p2 : TPrefix) (R : TExt × Bool) (hR : F22_crossroadsref28_Has w0 d1 p2 = R) : FnOk Try.prog 22 [.agg (TWorld.c w0), .int .i64 d1, .agg (TPrefix.c p2)] [] 0 (.tup [.agg (TExt.c R.1), .bool R.2]) [] 0 := by
 refine FnOk.wk i22 rfl rfl ?_
 unfold F22_crossroadsref28_Has at hR
 change WK _ _ _ [ac22] _ ⟨[(0, .agg (TWorld.c w0)), (1, .int .i64 d1), (2, .agg (TPrefix.c p2))], [], 0⟩
 unfold ac22
 refine WK.sr mixed ?_
 refine GX.step (v' := .ptr 0 0) (heap' := [(0, .box (TWorld.c w0))]) (next' := 1) rfl rfl rfl rfl rfl rfl rfl ?_
 refine GX.step (v' := .ptr 1 0) (heap' := [(0, .box (TWorld.c w0)), (1, .box (TPrefix.c p2))]) (next' := 2) rfl rfl rfl rfl rfl rfl rfl ?_
 refine GX.step (v' := .ptr 2 0) (heap' := [(0, .box (TWorld.c w0)), (1, .box (TPrefix.c p2)), (2, .box [.int .u32 0, .int .i64 0, .int .u32 0, .bool false])]) (next' := 3) rfl rfl rfl rfl rfl rfl rfl ?_
 refine GX.m rfl ?_
 refine GX.done ?_
 refine WK.seq ?_
 refine WK.sr mixed ?_
 refine GX.m rfl ?_
 refine GX.q (.bool (decide (d1 < 0))) ?_
 refine GX.m rfl ?_
 rcases bool_two (decide (d1 < 0)) with hb1 | hb1
 ·rw [hb1]; try simp only [hb1, cond_true, cond_false, Bool.true_and, Bool.false_and, Bool.true_or, Bool.false_or, Bool.not_true, Bool.not_false] at hR
  refine GX.m rfl ?_
  refine GX.q (.ptr 0 0) ?_
  refine GX.q (.ro 3 (w0.D.map TDomain.c)) ?_
  refine GX.pure (v' := .int .i64 (w0.D.length : Int)) rfl rfl rfl rfl (len_map _ _) ?_
  refine GX.q (.bool (decide ((w0.D.length : Int) ≤ d1))) ?_
  refine GX.q (.bool (decide ((w0.D.length : Int) ≤ d1))) ?_
  refine GX.done ?_
  rcases bool_two (decide ((w0.D.length : Int) ≤ d1)) with hb2 | hb2
  ·rw [hb2]; try simp only [hb2, cond_true, cond_false, Bool.true_and, Bool.false_and, Bool.true_or, Bool.false_or, Bool.not_true, Bool.not_false] at hR
   refine WK.condF rfl ?_
   refine WK.skip ?_
   refine WK.seq ?_
   refine WK.seq ?_
   refine WK.drawn mixed ?_
   refine RD.q (.ptr 0 0) ?_
   refine RD.q (.ro 3 (w0.D.map TDomain.c)) ?_
   refine RD.m rfl ?_
   refine RD.idxT (c := TDomain.c) (x := (w0.D.getD d1.toNat default)) rfl rfl rfl (by ((try simp only [decide_eq_true_eq, decide_eq_false_iff_not, Bool.not_eq_true, Bool.not_eq_false] at *); first | omega | (rw [wrap64_of (by omega) (by omega)]; omega) | (unfold min_ max_; (repeat' split) <;> first | omega | (rw [wrap64_of (by omega) (by omega)]; omega)))) (getD_at (by ((try simp only [decide_eq_true_eq, decide_eq_false_iff_not, Bool.not_eq_true, Bool.not_eq_false] at *); first | omega | (rw [wrap64_of (by omega) (by omega)]; omega) | (unfold min_ max_; (repeat' split) <;> first | omega | (rw [wrap64_of (by omega) (by omega)]; omega))))) ?_
   refine RD.q (.agg [.int .u32 ((w0.D.getD d1.toNat default).Tag), .ro 2 (((w0.D.getD d1.toNat default).In).map TPrefix.c), .ro 4 (((w0.D.getD d1.toNat default).Ext).map TExt.c)]) ?_
   refine RD.q (.agg (TPrefix.c p2)) ?_
   generalize hc25 : F38_crossroadsref28_owns (w0.D.getD d1.toNat default) p2 = c25 at hR
   try dsimp only at hR
   refine RD.callp (r := .bool c25) rfl rfl rfl (f38_ok (w0.D.getD d1.toNat default) p2 _ hc25) rfl rfl ?_
   refine RD.done rfl ?_
   rcases bool_two (c25) with hb3 | hb3
   ·rw [hb3]; try simp only [hb3, cond_true, cond_false, Bool.true_and, Bool.false_and, Bool.true_or, Bool.false_or, Bool.not_true, Bool.not_false] at hR
    refine WK.condF rfl ?_
    refine WK.skip ?_
    refine WK.seq ?_
    refine WK.sr mixed ?_
    refine GX.m rfl ?_
    refine GX.done ?_
    refine WK.lenp (t := 22) (j := 2) rfl rfl (by simp) (fun hlen_4 => ?_)
    rw [List.length_map] at hlen_4
    generalize hZ_4 : F22_crossroadsref28_Has_l1 p2 ((w0.D.getD d1.toNat default).Ext) = Z_4 at hR
    refine WK.forK (fun k s => ∃ (i8 : Nat), i8 ≤ ((w0.D.getD d1.toNat default).Ext).length ∧ k = ((w0.D.getD d1.toNat default).Ext).length - i8 ∧ F22_crossroadsref28_Has_l1 p2 (((w0.D.getD d1.toNat default).Ext).drop i8) = Z_4 ∧ s = ⟨[(1, .int .i64 d1), (3, .ptr 0 0), (5, .ptr 1 0), (6, .ptr 2 0), (8, .int .i64 (i8 : Int))], [(0, .box (TWorld.c w0)), (1, .box (TPrefix.c p2)), (2, .box [.int .u32 0, .int .i64 0, .int .u32 0, .bool false])], 3⟩) ((w0.D.getD d1.toNat default).Ext).length ⟨⟨[(1, .int .i64 d1), (3, .ptr 0 0), (5, .ptr 1 0), (6, .ptr 2 0), (8, .int .i64 (0 : Int))], [(0, .box (TWorld.c w0)), (1, .box (TPrefix.c p2)), (2, .box [.int .u32 0, .int .i64 0, .int .u32 0, .bool false])], 3⟩, Conv.keep [0, 1, 2] [] [1, 3, 5, 6, 8] rfl rfl (viewE_cons rfl rfl (viewE_cons rfl rfl (viewE_cons rfl rfl (viewE_cons rfl rfl (viewE_cons rfl rfl viewE_nil))))) rfl rfl, 0, (by omega), rfl, hZ_4, rfl⟩ ?_
    rintro _ _ ⟨i8, hi_4, rfl, hL_4, rfl⟩ again_4 out_4 Q_4 hagain_4 hout_4 hQ_4
    refine WK.seq ?_
    refine WK.sr mixed ?_
    refine GX.m rfl ?_
    refine GX.q (.ptr 0 0) ?_
    refine GX.q (.ro 3 (w0.D.map TDomain.c)) ?_
    refine GX.m rfl ?_
    refine GX.idxT (c := TDomain.c) (x := (w0.D.getD d1.toNat default)) rfl rfl rfl (by ((try simp only [decide_eq_true_eq, decide_eq_false_iff_not, Bool.not_eq_true, Bool.not_eq_false] at *); first | omega | (rw [wrap64_of (by omega) (by omega)]; omega) | (unfold min_ max_; (repeat' split) <;> first | omega | (rw [wrap64_of (by omega) (by omega)]; omega)))) (getD_at (by ((try simp only [decide_eq_true_eq, decide_eq_false_iff_not, Bool.not_eq_true, Bool.not_eq_false] at *); first | omega | (rw [wrap64_of (by omega) (by omega)]; omega) | (unfold min_ max_; (repeat' split) <;> first | omega | (rw [wrap64_of (by omega) (by omega)]; omega))))) ?_
    refine GX.q (.rptr [.ro 4 (((w0.D.getD d1.toNat default).Ext).map TExt.c)]) ?_
    refine GX.q (.ro 4 (((w0.D.getD d1.toNat default).Ext).map TExt.c)) ?_
    refine GX.pure (v' := .int .i64 (((w0.D.getD d1.toNat default).Ext).length : Int)) rfl rfl rfl rfl (len_map _ _) ?_
    refine GX.q (.bool (decide ((i8 : Int) < (((w0.D.getD d1.toNat default).Ext).length : Int)))) ?_
    refine GX.done ?_
    rcases bool_two (decide ((i8 : Int) < (((w0.D.getD d1.toNat default).Ext).length : Int))) with hb5 | hb5
    ·rw [hb5]
     rw [drop_end hb5, F22_crossroadsref28_Has_l1] at hL_4
     refine WK.condF rfl ?_
     refine WK.exit ?_
     refine QF.exit (hout_4 _ ?_)
     subst hL_4
     try dsimp only [cond_true, cond_false] at hR
     refine WK.sr mixed ?_
     refine GX.q (.agg [.int .u32 0, .int .i64 0, .int .u32 0, .bool false]) ?_
     refine GX.step0 (heap' := [(0, .box (TWorld.c w0)), (1, .box (TPrefix.c p2)), (2, .box [.int .u32 0, .int .i64 0, .int .u32 0, .bool false])]) (next' := 3) rfl rfl rfl rfl rfl ?_
     refine GX.m rfl ?_
     refine GX.done ?_
     refine WK.ret ?_
     subst hR
     exact RetQ.fr [] (.inr rfl) rfl rfl rfl rfl
    ·rw [hb5]
     obtain ⟨x8, hx4, hd4, hlt4⟩ := drop_more hb5
     rw [hd4, F22_crossroadsref28_Has_l1] at hL_4
     refine WK.condT rfl ?_
     refine WK.skip ?_
     refine WK.seq ?_
     refine WK.blockK (fun _ hK6 => ?_)
     refine WK.seq ?_
     refine WK.drawn mixed ?_
     refine RD.q (.ptr 0 0) ?_
     refine RD.q (.ro 3 (w0.D.map TDomain.c)) ?_
     refine RD.m rfl ?_
     refine RD.idxT (c := TDomain.c) (x := (w0.D.getD d1.toNat default)) rfl rfl rfl (by ((try simp only [decide_eq_true_eq, decide_eq_false_iff_not, Bool.not_eq_true, Bool.not_eq_false] at *); first | omega | (rw [wrap64_of (by omega) (by omega)]; omega) | (unfold min_ max_; (repeat' split) <;> first | omega | (rw [wrap64_of (by omega) (by omega)]; omega)))) (getD_at (by ((try simp only [decide_eq_true_eq, decide_eq_false_iff_not, Bool.not_eq_true, Bool.not_eq_false] at *); first | omega | (rw [wrap64_of (by omega) (by omega)]; omega) | (unfold min_ max_; (repeat' split) <;> first | omega | (rw [wrap64_of (by omega) (by omega)]; omega))))) ?_
     refine RD.q (.rptr [.ro 4 (((w0.D.getD d1.toNat default).Ext).map TExt.c)]) ?_
     refine RD.q (.ro 4 (((w0.D.getD d1.toNat default).Ext).map TExt.c)) ?_
     refine RD.m rfl ?_
     refine RD.idxT (c := TExt.c) (x := x8) rfl rfl rfl (Int.natCast_nonneg _) hx4 ?_
     refine RD.q (.rptr (TExt.c x8)) ?_
     refine RD.q (.agg [.int .u32 x8.P.A, .int .i64 x8.P.N]) ?_
     refine RD.q (.agg (TPrefix.c p2)) ?_
     refine RD.q (.bool (decide (x8.P.A = p2.A) && (decide (x8.P.N = p2.N) && true))) ?_
     refine RD.done rfl ?_
     rcases bool_two ((decide (x8.P.A = p2.A) && (decide (x8.P.N = p2.N) && true))) with hb7 | hb7
     ·rw [hb7]; try simp only [hb7, cond_true, cond_false, Bool.true_and, Bool.false_and, Bool.true_or, Bool.false_or, Bool.not_true, Bool.not_false] at hL_4
      refine WK.condF rfl ?_
      refine WK.skip ?_
      refine WK.nil (QF.normal (hK6 _ ?_))
      refine WK.regx mixed ?_
      refine GX.m rfl ?_
      refine GX.pure (v' := .int .i64 ((i8 + 1 : Nat) : Int)) rfl rfl rfl rfl (congrArg (PVal.int .i64) (wrap_up hlt4 hlen_4)) ?_
      refine GX.m rfl ?_
      refine GX.done ?_
      refine WK.nil (QF.normal ?_)
      exact hagain_4 _ (((w0.D.getD d1.toNat default).Ext).length - (i8 + 1)) ⟨[(1, .int .i64 d1), (3, .ptr 0 0), (5, .ptr 1 0), (6, .ptr 2 0), (8, .int .i64 ((i8 + 1) : Int))], [(0, .box (TWorld.c w0)), (1, .box (TPrefix.c p2)), (2, .box [.int .u32 0, .int .i64 0, .int .u32 0, .bool false])], 3⟩ (by omega) (Conv.keep [0, 1, 2] [] [1, 3, 5, 6, 8] rfl rfl (viewE_cons rfl rfl (viewE_cons rfl rfl (viewE_cons rfl rfl (viewE_cons rfl rfl (viewE_cons rfl rfl viewE_nil))))) rfl rfl) ⟨i8 + 1, (by omega), rfl, hL_4, rfl⟩
     ·rw [hb7]; try simp only [hb7, cond_true, cond_false, Bool.true_and, Bool.false_and, Bool.true_or, Bool.false_or, Bool.not_true, Bool.not_false] at hL_4
      refine WK.condT rfl ?_
      refine WK.sr mixed ?_
      refine GX.q (.ptr 0 0) ?_
      refine GX.q (.ro 3 (w0.D.map TDomain.c)) ?_
      refine GX.m rfl ?_
      refine GX.idxT (c := TDomain.c) (x := (w0.D.getD d1.toNat default)) rfl rfl rfl (by ((try simp only [decide_eq_true_eq, decide_eq_false_iff_not, Bool.not_eq_true, Bool.not_eq_false] at *); first | omega | (rw [wrap64_of (by omega) (by omega)]; omega) | (unfold min_ max_; (repeat' split) <;> first | omega | (rw [wrap64_of (by omega) (by omega)]; omega)))) (getD_at (by ((try simp only [decide_eq_true_eq, decide_eq_false_iff_not, Bool.not_eq_true, Bool.not_eq_false] at *); first | omega | (rw [wrap64_of (by omega) (by omega)]; omega) | (unfold min_ max_; (repeat' split) <;> first | omega | (rw [wrap64_of (by omega) (by omega)]; omega))))) ?_
      refine GX.q (.rptr [.ro 4 (((w0.D.getD d1.toNat default).Ext).map TExt.c)]) ?_
      refine GX.q (.ro 4 (((w0.D.getD d1.toNat default).Ext).map TExt.c)) ?_
      refine GX.m rfl ?_
      refine GX.idxT (c := TExt.c) (x := x8) rfl rfl rfl (Int.natCast_nonneg _) hx4 ?_
      refine GX.q (.agg (TExt.c x8)) ?_
      refine GX.step0 (heap' := [(0, .box (TWorld.c w0)), (1, .box (TPrefix.c p2)), (2, .box (TExt.c x8))]) (next' := 3) rfl rfl rfl rfl rfl ?_
      refine GX.m rfl ?_
      refine GX.done ?_
      refine WK.ret ?_
      refine QF.ret ?_
      refine QF.ret (hQ_4 _ _ ?_)
      subst hL_4
      subst hR
      exact RetQ.fr [] (.inr rfl) rfl rfl rfl rfl
   ·rw [hb3]; try simp only [hb3, cond_true, cond_false, Bool.true_and, Bool.false_and, Bool.true_or, Bool.false_or, Bool.not_true, Bool.not_false] at hR
    refine WK.condT rfl ?_
    refine WK.seq ?_
    refine WK.drawn mixed ?_
    refine RD.q (.agg (TPrefix.c p2)) ?_
    refine RD.q (.ptr 0 0) ?_
    refine RD.q (.ro 3 (w0.D.map TDomain.c)) ?_
    refine RD.m rfl ?_
    refine RD.idxT (c := TDomain.c) (x := (w0.D.getD d1.toNat default)) rfl rfl rfl (by ((try simp only [decide_eq_true_eq, decide_eq_false_iff_not, Bool.not_eq_true, Bool.not_eq_false] at *); first | omega | (rw [wrap64_of (by omega) (by omega)]; omega) | (unfold min_ max_; (repeat' split) <;> first | omega | (rw [wrap64_of (by omega) (by omega)]; omega)))) (getD_at (by ((try simp only [decide_eq_true_eq, decide_eq_false_iff_not, Bool.not_eq_true, Bool.not_eq_false] at *); first | omega | (rw [wrap64_of (by omega) (by omega)]; omega) | (unfold min_ max_; (repeat' split) <;> first | omega | (rw [wrap64_of (by omega) (by omega)]; omega))))) ?_
    refine RD.q (.rptr [.int .u32 ((w0.D.getD d1.toNat default).Tag), .ro 2 (((w0.D.getD d1.toNat default).In).map TPrefix.c), .ro 4 (((w0.D.getD d1.toNat default).Ext).map TExt.c)]) ?_
    refine RD.q (.int .u32 ((w0.D.getD d1.toNat default).Tag)) ?_
    refine RD.q (.agg [.int .u32 p2.A, .int .i64 p2.N, .int .u32 ((w0.D.getD d1.toNat default).Tag), .bool false]) ?_
    refine RD.step0 (heap' := [(0, .box (TWorld.c w0)), (1, .box (TPrefix.c p2)), (2, .box [.int .u32 p2.A, .int .i64 p2.N, .int .u32 ((w0.D.getD d1.toNat default).Tag), .bool false])]) (next' := 3) rfl rfl rfl rfl rfl ?_
    refine RD.m rfl ?_
    refine RD.done rfl ?_
    refine WK.ret ?_
    subst hR
    exact RetQ.fr [] (.inr rfl) rfl rfl rfl rfl
  ·rw [hb2]; try simp only [hb2, cond_true, cond_false, Bool.true_and, Bool.false_and, Bool.true_or, Bool.false_or, Bool.not_true, Bool.not_false] at hR
   refine WK.condT rfl ?_
   refine WK.sr mixed ?_
   refine GX.q (.agg [.int .u32 0, .int .i64 0, .int .u32 0, .bool false]) ?_
   refine GX.step0 (heap' := [(0, .box (TWorld.c w0)), (1, .box (TPrefix.c p2)), (2, .box [.int .u32 0, .int .i64 0, .int .u32 0, .bool false])]) (next' := 3) rfl rfl rfl rfl rfl ?_
   refine GX.m rfl ?_
   refine GX.done ?_
   refine WK.ret ?_
   subst hR
   exact RetQ.fr [] (.inr rfl) rfl rfl rfl rfl
 ·rw [hb1]; try simp only [hb1, cond_true, cond_false, Bool.true_and, Bool.false_and, Bool.true_or, Bool.false_or, Bool.not_true, Bool.not_false] at hR
  refine GX.skip rfl rfl ?_
  refine GX.skip rfl rfl ?_
  refine GX.skip rfl rfl ?_
  refine GX.skip rfl rfl ?_
  refine GX.skip rfl rfl ?_
  refine GX.q (.bool true) ?_
  refine GX.done ?_
  refine WK.condT rfl ?_
  refine WK.sr mixed ?_
  refine GX.q (.agg [.int .u32 0, .int .i64 0, .int .u32 0, .bool false]) ?_
  refine GX.step0 (heap' := [(0, .box (TWorld.c w0)), (1, .box (TPrefix.c p2)), (2, .box [.int .u32 0, .int .i64 0, .int .u32 0, .bool false])]) (next' := 3) rfl rfl rfl rfl rfl ?_
  refine GX.m rfl ?_
  refine GX.done ?_
  refine WK.ret ?_
  subst hR
  exact RetQ.fr [] (.inr rfl) rfl rfl rfl rfl

theorem f46_ok (l0 : List TExt) (x1 : TExt) (hp0 : l0.length ≤ 1000) (R : (List TExt)) (hR : F46_crossroadsref28_into l0 x1 = R) : FnOk Try.prog 46 [.ro 4 (l0.map TExt.c), .agg (TExt.c x1)] [] 0 (.ro 4 (R.map TExt.c)) [] 0 := by
 refine FnOk.wk i46 rfl rfl ?_
 unfold F46_crossroadsref28_into at hR
 change WK _ _ _ [ac46] _ ⟨[(0, .ro 4 (l0.map TExt.c)), (1, .agg (TExt.c x1))], [], 0⟩
 unfold ac46
 refine WK.sr mixed ?_
 refine GX.step (v' := .ptr 0 0) (heap' := [(0, .box (TExt.c x1))]) (next' := 1) rfl rfl rfl rfl rfl rfl rfl ?_
 refine GX.m rfl ?_
 refine GX.done ?_
 refine WK.sr mixed ?_
 refine GX.m rfl ?_
 refine GX.q (.ptr 0 0) ?_
 refine GX.q (.agg [.int .u32 x1.P.A, .int .i64 x1.P.N]) ?_
 generalize hc12 : F40_crossroadsref28_without l0 x1.P = c12 at hR
 have hpo0_c12 := post_without l0 x1.P; rw [hc12] at hpo0_c12
 try dsimp only at hR
 refine GX.callp (r := .ro 4 (c12.map TExt.c)) rfl rfl rfl (f40_ok l0 x1.P (by omega) _ hc12) rfl rfl ?_
 refine GX.m rfl ?_
 refine GX.done ?_
 refine WK.sr mixed ?_
 refine GX.step (v' := .own 1 4 0 (([] : List TExt)).length) (heap' := [(0, .box (TExt.c x1)), (1, .row 4 70 (([] : List TExt).map TExt.c))]) (next' := 2) rfl rfl rfl rfl rfl rfl rfl ?_
 refine GX.m rfl ?_
 refine GX.done ?_
 refine WK.sr mixed ?_
 refine GX.m rfl ?_
 refine GX.done ?_
 refine WK.seq ?_
 refine WK.sr mixed ?_
 refine GX.m rfl ?_
 refine GX.done ?_
 refine WK.len (t := 12) rfl (by simp) (fun hlen_9 => ?_)
 rw [List.length_map] at hlen_9
 generalize hZ_9 : F46_crossroadsref28_into_l1 x1 false ([] : List TExt) c12 = Z_9 at hR
 refine WK.forK (fun k s => ∃ (i8 : Nat) (put7 : Bool) (out6 : List TExt), i8 ≤ c12.length ∧ k = c12.length - i8 ∧ out6.length ≤ 2 * i8 ∧ F46_crossroadsref28_into_l1 x1 put7 out6 (c12.drop i8) = Z_9 ∧ s = ⟨[(3, .ptr 0 0), (5, .ro 4 (c12.map TExt.c)), (6, .own 1 4 0 out6.length), (7, .bool put7), (8, .int .i64 (i8 : Int))], [(0, .box (TExt.c x1)), (1, .row 4 70 (out6.map TExt.c))], 2⟩) c12.length ⟨⟨[(3, .ptr 0 0), (5, .ro 4 (c12.map TExt.c)), (6, .own 1 4 0 ([] : List TExt).length), (7, .bool false), (8, .int .i64 (0 : Int))], [(0, .box (TExt.c x1)), (1, .row 4 70 (([] : List TExt).map TExt.c))], 2⟩, Conv.keep [0, 1] [] [3, 5, 6, 7, 8] rfl rfl (viewE_cons rfl rfl (viewE_cons rfl rfl (viewE_cons rfl rfl (viewE_cons rfl rfl (viewE_cons rfl rfl viewE_nil))))) rfl rfl, 0, false, ([] : List TExt), (by omega), rfl, (by ((try simp only [List.length_append, List.length_cons, List.length_nil, decide_eq_true_eq] at *) <;> first | omega | (rw [wrap64_of (by omega) (by omega)]; omega))), hZ_9, rfl⟩ ?_
 rintro _ _ ⟨i8, put7, out6, hi_9, rfl, hinv9_out6, hL_9, rfl⟩ again_9 out_9 Q_9 hagain_9 hout_9 hQ_9
 refine WK.seq ?_
 refine WK.sr mixed ?_
 refine GX.m rfl ?_
 refine GX.m rfl ?_
 refine GX.pure (v' := .int .i64 (c12.length : Int)) rfl rfl rfl rfl (len_map _ _) ?_
 refine GX.q (.bool (decide ((i8 : Int) < (c12.length : Int)))) ?_
 refine GX.done ?_
 rcases bool_two (decide ((i8 : Int) < (c12.length : Int))) with hb10 | hb10
 ·rw [hb10]
  rw [drop_end hb10, F46_crossroadsref28_into_l1] at hL_9
  refine WK.condF rfl ?_
  refine WK.exit ?_
  refine QF.exit (hout_9 _ ?_)
  subst hL_9
  try dsimp only [cond_true, cond_false] at hR
  refine WK.seq ?_
  refine WK.sr mixed ?_
  refine GX.m rfl ?_
  refine GX.q (.bool (!put7)) ?_
  refine GX.done ?_
  rcases bool_two (put7) with hb11 | hb11
  ·rw [hb11]; try simp only [hb11, cond_true, cond_false, Bool.true_and, Bool.false_and, Bool.true_or, Bool.false_or, Bool.not_true, Bool.not_false] at hR
   refine WK.condT rfl ?_
   refine WK.regx mixed ?_
   refine GX.m rfl ?_
   refine GX.q (.agg (TExt.c x1)) ?_
   refine GX.step (v' := .own 2 4 0 (([x1] : List TExt)).length) (heap' := [(0, .box (TExt.c x1)), (1, .row 4 70 (out6.map TExt.c)), (2, .row 4 70 (([x1] : List TExt).map TExt.c))]) (next' := 3) rfl rfl rfl rfl rfl rfl rfl ?_
   refine GX.appT (c := TExt.c) (L := out6) (X := ([x1] : List TExt)) (heap' := [(0, .box (TExt.c x1)), (2, .row 4 70 (([x1] : List TExt).map TExt.c)), (3, .row 4 70 ((out6 ++ ([x1] : List TExt)).map TExt.c))]) (next' := 4) rfl rfl rfl rfl (elems_own rfl) (by ((try simp only [List.length_append, List.length_cons, List.length_nil, List.length_map, decide_eq_true_eq, decide_eq_false_iff_not] at *) <;> omega)) (by ((try simp only [List.length_append, List.length_cons, List.length_nil, List.length_map, decide_eq_true_eq, decide_eq_false_iff_not] at *) <;> omega)) rfl rfl rfl rfl ?_
   refine GX.m rfl ?_
   refine GX.done ?_
   refine WK.sr mixed ?_
   refine GX.m rfl ?_
   refine GX.m rfl ?_
   refine GX.done ?_
   refine WK.ret ?_
   subst hR
   exact RetQ.fr [3] (.inr rfl) rfl rfl (viewGo_cons (view_rowT rfl rfl) viewGo_nil) rfl
  ·rw [hb11]; try simp only [hb11, cond_true, cond_false, Bool.true_and, Bool.false_and, Bool.true_or, Bool.false_or, Bool.not_true, Bool.not_false] at hR
   refine WK.condF rfl ?_
   refine WK.skip ?_
   refine WK.sr mixed ?_
   refine GX.m rfl ?_
   refine GX.m rfl ?_
   refine GX.done ?_
   refine WK.ret ?_
   subst hR
   exact RetQ.fr [1] (.inr rfl) rfl rfl (viewGo_cons (view_rowT rfl rfl) viewGo_nil) rfl
 ·rw [hb10]
  obtain ⟨x8, hx9, hd9, hlt9⟩ := drop_more hb10
  rw [hd9, F46_crossroadsref28_into_l1] at hL_9
  refine WK.condT rfl ?_
  refine WK.skip ?_
  refine WK.seq ?_
  refine WK.blockK (fun _ hK12 => ?_)
  refine WK.seq ?_
  refine WK.seq ?_
  refine WK.drawn mixed ?_
  refine RD.m rfl ?_
  refine RD.q (.bool (!put7)) ?_
  refine RD.m rfl ?_
  rcases bool_two (put7) with hb13 | hb13
  ·rw [hb13]; try simp only [hb13, cond_true, cond_false, Bool.true_and, Bool.false_and, Bool.true_or, Bool.false_or, Bool.not_true, Bool.not_false] at hL_9
   refine RD.q (.ptr 0 0) ?_
   refine RD.q (.agg [.int .u32 x1.P.A, .int .i64 x1.P.N]) ?_
   refine RD.m rfl ?_
   refine RD.m rfl ?_
   refine RD.idxT (c := TExt.c) (x := x8) rfl rfl rfl (Int.natCast_nonneg _) hx9 ?_
   refine RD.q (.rptr (TExt.c x8)) ?_
   refine RD.q (.agg [.int .u32 x8.P.A, .int .i64 x8.P.N]) ?_
   generalize hc30 : F39_crossroadsref03_Less x1.P x8.P = c30 at hL_9
   try dsimp only at hL_9
   refine RD.callp (r := .bool c30) rfl rfl rfl (f39_ok x1.P x8.P _ hc30) rfl rfl ?_
   refine RD.q (.bool c30) ?_
   refine RD.done rfl ?_
   rcases bool_two (c30) with hb14 | hb14
   ·rw [hb14]; try simp only [hb14, cond_true, cond_false, Bool.true_and, Bool.false_and, Bool.true_or, Bool.false_or, Bool.not_true, Bool.not_false] at hL_9
    refine WK.condF rfl ?_
    refine WK.skip ?_
    refine WK.regx mixed ?_
    refine GX.m rfl ?_
    refine GX.m rfl ?_
    refine GX.m rfl ?_
    refine GX.idxT (c := TExt.c) (x := x8) rfl rfl rfl (Int.natCast_nonneg _) hx9 ?_
    refine GX.q (.agg (TExt.c x8)) ?_
    refine GX.step (v' := .own 2 4 0 (([x8] : List TExt)).length) (heap' := [(0, .box (TExt.c x1)), (1, .row 4 70 (out6.map TExt.c)), (2, .row 4 70 (([x8] : List TExt).map TExt.c))]) (next' := 3) rfl rfl rfl rfl rfl rfl rfl ?_
    refine GX.appT (c := TExt.c) (L := out6) (X := ([x8] : List TExt)) (heap' := [(0, .box (TExt.c x1)), (2, .row 4 70 (([x8] : List TExt).map TExt.c)), (3, .row 4 70 ((out6 ++ ([x8] : List TExt)).map TExt.c))]) (next' := 4) rfl rfl rfl rfl (elems_own rfl) (by ((try simp only [List.length_append, List.length_cons, List.length_nil, List.length_map, decide_eq_true_eq, decide_eq_false_iff_not] at *) <;> omega)) (by ((try simp only [List.length_append, List.length_cons, List.length_nil, List.length_map, decide_eq_true_eq, decide_eq_false_iff_not] at *) <;> omega)) rfl rfl rfl rfl ?_
    refine GX.m rfl ?_
    refine GX.done ?_
    refine WK.nil (QF.normal (hK12 _ ?_))
    refine WK.regx mixed ?_
    refine GX.m rfl ?_
    refine GX.pure (v' := .int .i64 ((i8 + 1 : Nat) : Int)) rfl rfl rfl rfl (congrArg (PVal.int .i64) (wrap_up hlt9 hlen_9)) ?_
    refine GX.m rfl ?_
    refine GX.done ?_
    refine WK.nil (QF.normal ?_)
    exact hagain_9 _ (c12.length - (i8 + 1)) ⟨[(3, .ptr 0 0), (5, .ro 4 (c12.map TExt.c)), (6, .own 1 4 0 (out6 ++ ([x8] : List TExt)).length), (7, .bool false), (8, .int .i64 ((i8 + 1) : Int))], [(0, .box (TExt.c x1)), (1, .row 4 70 ((out6 ++ ([x8] : List TExt)).map TExt.c))], 2⟩ (by omega) (Conv.keep [0, 3] [] [3, 5, 6, 7, 8] rfl rfl (viewE_cons rfl rfl (viewE_cons rfl rfl (viewE_cons rfl rfl (viewE_cons rfl rfl (viewE_cons rfl rfl viewE_nil))))) rfl rfl) ⟨i8 + 1, false, (out6 ++ ([x8] : List TExt)), (by omega), rfl, (by ((try simp only [List.length_append, List.length_cons, List.length_nil, decide_eq_true_eq] at *) <;> first | omega | (rw [wrap64_of (by omega) (by omega)]; omega))), hL_9, rfl⟩
   ·rw [hb14]; try simp only [hb14, cond_true, cond_false, Bool.true_and, Bool.false_and, Bool.true_or, Bool.false_or, Bool.not_true, Bool.not_false] at hL_9
    refine WK.condT rfl ?_
    refine WK.sr mixed ?_
    refine GX.m rfl ?_
    refine GX.q (.agg (TExt.c x1)) ?_
    refine GX.step (v' := .own 2 4 0 (([x1] : List TExt)).length) (heap' := [(0, .box (TExt.c x1)), (1, .row 4 70 (out6.map TExt.c)), (2, .row 4 70 (([x1] : List TExt).map TExt.c))]) (next' := 3) rfl rfl rfl rfl rfl rfl rfl ?_
    refine GX.appT (c := TExt.c) (L := out6) (X := ([x1] : List TExt)) (heap' := [(0, .box (TExt.c x1)), (2, .row 4 70 (([x1] : List TExt).map TExt.c)), (3, .row 4 70 ((out6 ++ ([x1] : List TExt)).map TExt.c))]) (next' := 4) rfl rfl rfl rfl (elems_own rfl) (by ((try simp only [List.length_append, List.length_cons, List.length_nil, List.length_map, decide_eq_true_eq, decide_eq_false_iff_not] at *) <;> omega)) (by ((try simp only [List.length_append, List.length_cons, List.length_nil, List.length_map, decide_eq_true_eq, decide_eq_false_iff_not] at *) <;> omega)) rfl rfl rfl rfl ?_
    refine GX.m rfl ?_
    refine GX.done ?_
    refine WK.regx mixed ?_
    refine GX.m rfl ?_
    refine GX.done ?_
    refine WK.regx mixed ?_
    refine GX.m rfl ?_
    refine GX.m rfl ?_
    refine GX.m rfl ?_
    refine GX.idxT (c := TExt.c) (x := x8) rfl rfl rfl (Int.natCast_nonneg _) hx9 ?_
    refine GX.q (.agg (TExt.c x8)) ?_
    refine GX.step (v' := .own 4 4 0 (([x8] : List TExt)).length) (heap' := [(0, .box (TExt.c x1)), (2, .row 4 70 (([x1] : List TExt).map TExt.c)), (3, .row 4 70 ((out6 ++ ([x1] : List TExt)).map TExt.c)), (4, .row 4 70 (([x8] : List TExt).map TExt.c))]) (next' := 5) rfl rfl rfl rfl rfl rfl rfl ?_
    refine GX.appT (c := TExt.c) (L := (out6 ++ ([x1] : List TExt))) (X := ([x8] : List TExt)) (heap' := [(0, .box (TExt.c x1)), (2, .row 4 70 (([x1] : List TExt).map TExt.c)), (4, .row 4 70 (([x8] : List TExt).map TExt.c)), (5, .row 4 70 (((out6 ++ ([x1] : List TExt)) ++ ([x8] : List TExt)).map TExt.c))]) (next' := 6) rfl rfl rfl rfl (elems_own rfl) (by ((try simp only [List.length_append, List.length_cons, List.length_nil, List.length_map, decide_eq_true_eq, decide_eq_false_iff_not] at *) <;> omega)) (by ((try simp only [List.length_append, List.length_cons, List.length_nil, List.length_map, decide_eq_true_eq, decide_eq_false_iff_not] at *) <;> omega)) rfl rfl rfl rfl ?_
    refine GX.m rfl ?_
    refine GX.done ?_
    refine WK.nil (QF.normal (hK12 _ ?_))
    refine WK.regx mixed ?_
    refine GX.m rfl ?_
    refine GX.pure (v' := .int .i64 ((i8 + 1 : Nat) : Int)) rfl rfl rfl rfl (congrArg (PVal.int .i64) (wrap_up hlt9 hlen_9)) ?_
    refine GX.m rfl ?_
    refine GX.done ?_
    refine WK.nil (QF.normal ?_)
    exact hagain_9 _ (c12.length - (i8 + 1)) ⟨[(3, .ptr 0 0), (5, .ro 4 (c12.map TExt.c)), (6, .own 1 4 0 ((out6 ++ ([x1] : List TExt)) ++ ([x8] : List TExt)).length), (7, .bool true), (8, .int .i64 ((i8 + 1) : Int))], [(0, .box (TExt.c x1)), (1, .row 4 70 (((out6 ++ ([x1] : List TExt)) ++ ([x8] : List TExt)).map TExt.c))], 2⟩ (by omega) (Conv.keep [0, 5] [] [3, 5, 6, 7, 8] rfl rfl (viewE_cons rfl rfl (viewE_cons rfl rfl (viewE_cons rfl rfl (viewE_cons rfl rfl (viewE_cons rfl rfl viewE_nil))))) rfl rfl) ⟨i8 + 1, true, ((out6 ++ ([x1] : List TExt)) ++ ([x8] : List TExt)), (by omega), rfl, (by ((try simp only [List.length_append, List.length_cons, List.length_nil, decide_eq_true_eq] at *) <;> first | omega | (rw [wrap64_of (by omega) (by omega)]; omega))), hL_9, rfl⟩
  ·rw [hb13]; try simp only [hb13, cond_true, cond_false, Bool.true_and, Bool.false_and, Bool.true_or, Bool.false_or, Bool.not_true, Bool.not_false] at hL_9
   refine RD.skip rfl rfl ?_
   refine RD.skip rfl rfl ?_
   refine RD.skip rfl rfl ?_
   refine RD.skip rfl rfl ?_
   refine RD.skip rfl rfl ?_
   refine RD.skip rfl rfl ?_
   refine RD.skip rfl rfl ?_
   refine RD.skip rfl rfl ?_
   refine RD.q (.bool false) ?_
   refine RD.done rfl ?_
   refine WK.condF rfl ?_
   refine WK.skip ?_
   refine WK.regx mixed ?_
   refine GX.m rfl ?_
   refine GX.m rfl ?_
   refine GX.m rfl ?_
   refine GX.idxT (c := TExt.c) (x := x8) rfl rfl rfl (Int.natCast_nonneg _) hx9 ?_
   refine GX.q (.agg (TExt.c x8)) ?_
   refine GX.step (v' := .own 2 4 0 (([x8] : List TExt)).length) (heap' := [(0, .box (TExt.c x1)), (1, .row 4 70 (out6.map TExt.c)), (2, .row 4 70 (([x8] : List TExt).map TExt.c))]) (next' := 3) rfl rfl rfl rfl rfl rfl rfl ?_
   refine GX.appT (c := TExt.c) (L := out6) (X := ([x8] : List TExt)) (heap' := [(0, .box (TExt.c x1)), (2, .row 4 70 (([x8] : List TExt).map TExt.c)), (3, .row 4 70 ((out6 ++ ([x8] : List TExt)).map TExt.c))]) (next' := 4) rfl rfl rfl rfl (elems_own rfl) (by ((try simp only [List.length_append, List.length_cons, List.length_nil, List.length_map, decide_eq_true_eq, decide_eq_false_iff_not] at *) <;> omega)) (by ((try simp only [List.length_append, List.length_cons, List.length_nil, List.length_map, decide_eq_true_eq, decide_eq_false_iff_not] at *) <;> omega)) rfl rfl rfl rfl ?_
   refine GX.m rfl ?_
   refine GX.done ?_
   refine WK.nil (QF.normal (hK12 _ ?_))
   refine WK.regx mixed ?_
   refine GX.m rfl ?_
   refine GX.pure (v' := .int .i64 ((i8 + 1 : Nat) : Int)) rfl rfl rfl rfl (congrArg (PVal.int .i64) (wrap_up hlt9 hlen_9)) ?_
   refine GX.m rfl ?_
   refine GX.done ?_
   refine WK.nil (QF.normal ?_)
   exact hagain_9 _ (c12.length - (i8 + 1)) ⟨[(3, .ptr 0 0), (5, .ro 4 (c12.map TExt.c)), (6, .own 1 4 0 (out6 ++ ([x8] : List TExt)).length), (7, .bool true), (8, .int .i64 ((i8 + 1) : Int))], [(0, .box (TExt.c x1)), (1, .row 4 70 ((out6 ++ ([x8] : List TExt)).map TExt.c))], 2⟩ (by omega) (Conv.keep [0, 3] [] [3, 5, 6, 7, 8] rfl rfl (viewE_cons rfl rfl (viewE_cons rfl rfl (viewE_cons rfl rfl (viewE_cons rfl rfl (viewE_cons rfl rfl viewE_nil))))) rfl rfl) ⟨i8 + 1, true, (out6 ++ ([x8] : List TExt)), (by omega), rfl, (by ((try simp only [List.length_append, List.length_cons, List.length_nil, decide_eq_true_eq] at *) <;> first | omega | (rw [wrap64_of (by omega) (by omega)]; omega))), hL_9, rfl⟩

end Go.Proofs.Ytlemcljcmfphcaa.Abs
