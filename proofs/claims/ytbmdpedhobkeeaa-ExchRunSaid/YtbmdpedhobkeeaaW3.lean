/- The functions walked: each computes its Lean function (printed by this work's own program gen.py). -/
import Derived.Test.YtbmdpedhobkeeaaSq
import Derived.Test.YtbmdpedhobkeeaaW1
import Derived.Test.YtbmdpedhobkeeaaW2
set_option linter.unusedVariables false
set_option linter.unusedSimpArgs false
set_option maxRecDepth 10000
set_option maxHeartbeats 4000000
namespace Go.Proofs.Ytbmdpedhobkeeaa.Abs
open Go

theorem f20_ok (a0 : TSession) (b1 : TSession) (fates2 : List Int) (R : TSession × TSession) (hR : F20_crossroadsref17_Run a0 b1 fates2 = some R) : FnOk Try.prog 20 [.agg (TSession.c a0), .agg (TSession.c b1), .ro 1 (fates2.map c_i64)] [] 0 (.tup [.agg (TSession.c R.1), .agg (TSession.c R.2)]) [] 0 := by
 refine FnOk.wk i20 rfl rfl ?_
 unfold F20_crossroadsref17_Run at hR
 try dsimp only at hR
 change WK _ _ _ [ac20] _ ⟨[(0, .agg (TSession.c a0)), (1, .agg (TSession.c b1)), (2, .ro 1 (fates2.map c_i64))], [], 0⟩
 unfold ac20
 refine WK.sr mixed ?_
 refine GX.step (v' := .ptr 0 0) (heap' := [(0, .box (TSession.c a0))]) (next' := 1) rfl rfl rfl rfl rfl rfl rfl ?_
 refine GX.step (v' := .ptr 1 0) (heap' := [(0, .box (TSession.c a0)), (1, .box (TSession.c b1))]) (next' := 2) rfl rfl rfl rfl rfl rfl rfl ?_
 refine GX.step (v' := .ptr 2 0) (heap' := [(0, .box (TSession.c a0)), (1, .box (TSession.c b1)), (2, .box [.int .u32 0, .int .u32 0, .int .i64 0, .bool false, .int .u32 0, .nils, .nils, .int .i64 0, .int .i64 0, .bool false, .bool false, .bool false, .int .u32 0, .nils])]) (next' := 3) rfl rfl rfl rfl rfl rfl rfl ?_
 refine GX.step (v' := .ptr 3 0) (heap' := [(0, .box (TSession.c a0)), (1, .box (TSession.c b1)), (2, .box [.int .u32 0, .int .u32 0, .int .i64 0, .bool false, .int .u32 0, .nils, .nils, .int .i64 0, .int .i64 0, .bool false, .bool false, .bool false, .int .u32 0, .nils]), (3, .box [.int .u32 0, .int .u32 0, .int .i64 0, .bool false, .int .u32 0, .nils, .nils, .int .i64 0, .int .i64 0, .bool false, .bool false, .bool false, .int .u32 0, .nils])]) (next' := 4) rfl rfl rfl rfl rfl rfl rfl ?_
 refine GX.done ?_
 refine WK.seq ?_
 refine WK.drawn mixed ?_
 refine RD.q (.ptr 1 7) ?_
 refine RD.q (.agg [.int .i64 b1.Last.MTU, .int .i64 b1.Last.Options, .bool b1.Last.Init, .bool b1.Last.More, .bool b1.Last.Master, .int .u32 b1.Last.Seq, .ro 8 (b1.Last.Heads.map THeader.c)]) ?_
 refine RD.step (v' := .own 4 7 0 (([b1.Last] : List TDesc)).length) (heap' := [(0, .box (TSession.c a0)), (1, .box (TSession.c b1)), (2, .box [.int .u32 0, .int .u32 0, .int .i64 0, .bool false, .int .u32 0, .nils, .nils, .int .i64 0, .int .i64 0, .bool false, .bool false, .bool false, .int .u32 0, .nils]), (3, .box [.int .u32 0, .int .u32 0, .int .i64 0, .bool false, .int .u32 0, .nils, .nils, .int .i64 0, .int .i64 0, .bool false, .bool false, .bool false, .int .u32 0, .nils]), (4, .row 7 34 (([b1.Last] : List TDesc).map TDesc.c))]) (next' := 5) rfl rfl rfl rfl rfl rfl rfl ?_
 refine RD.q (.ptr 0 7) ?_
 refine RD.q (.agg [.int .i64 a0.Last.MTU, .int .i64 a0.Last.Options, .bool a0.Last.Init, .bool a0.Last.More, .bool a0.Last.Master, .int .u32 a0.Last.Seq, .ro 8 (a0.Last.Heads.map THeader.c)]) ?_
 refine RD.step (v' := .own 5 7 0 (([a0.Last] : List TDesc)).length) (heap' := [(0, .box (TSession.c a0)), (1, .box (TSession.c b1)), (2, .box [.int .u32 0, .int .u32 0, .int .i64 0, .bool false, .int .u32 0, .nils, .nils, .int .i64 0, .int .i64 0, .bool false, .bool false, .bool false, .int .u32 0, .nils]), (3, .box [.int .u32 0, .int .u32 0, .int .i64 0, .bool false, .int .u32 0, .nils, .nils, .int .i64 0, .int .i64 0, .bool false, .bool false, .bool false, .int .u32 0, .nils]), (4, .row 7 34 (([b1.Last] : List TDesc).map TDesc.c)), (5, .row 7 34 (([a0.Last] : List TDesc).map TDesc.c))]) (next' := 6) rfl rfl rfl rfl rfl rfl rfl ?_
 iterate 2 refine RD.m rfl ?_
 refine RD.done rfl ?_
 refine WK.seq ?_
 refine WK.sr mixed ?_
 refine GX.m rfl ?_
 refine GX.done ?_
 refine WK.len (t := 2) rfl (by simp) (fun hlen_79 => ?_)
 rw [List.length_map] at hlen_79
 generalize hZ_79 : F20_crossroadsref17_Run_l1 a0 b1 ([b1.Last] : List TDesc) ([a0.Last] : List TDesc) fates2 = Z_79 at hR
 refine WK.forK (fun k s => ∃ (i10 : Nat) (a3 : TSession) (b4 : TSession) (toA8 : List TDesc) (toB9 : List TDesc), i10 ≤ fates2.length ∧ k = fates2.length - i10 ∧ F20_crossroadsref17_Run_l1 a3 b4 toA8 toB9 (fates2.drop i10) = Z_79 ∧ s = ⟨[(2, .ro 1 (fates2.map c_i64)), (3, .ptr 0 0), (4, .ptr 1 0), (6, .ptr 2 0), (7, .ptr 3 0), (8, .own 4 7 0 toA8.length), (9, .own 5 7 0 toB9.length), (10, .int .i64 (i10 : Int))], [(0, .box (TSession.c a3)), (1, .box (TSession.c b4)), (2, .box [.int .u32 0, .int .u32 0, .int .i64 0, .bool false, .int .u32 0, .nils, .nils, .int .i64 0, .int .i64 0, .bool false, .bool false, .bool false, .int .u32 0, .nils]), (3, .box [.int .u32 0, .int .u32 0, .int .i64 0, .bool false, .int .u32 0, .nils, .nils, .int .i64 0, .int .i64 0, .bool false, .bool false, .bool false, .int .u32 0, .nils]), (4, .row 7 34 (toA8.map TDesc.c)), (5, .row 7 34 (toB9.map TDesc.c))], 6⟩) fates2.length ⟨⟨[(2, .ro 1 (fates2.map c_i64)), (3, .ptr 0 0), (4, .ptr 1 0), (6, .ptr 2 0), (7, .ptr 3 0), (8, .own 4 7 0 ([b1.Last] : List TDesc).length), (9, .own 5 7 0 ([a0.Last] : List TDesc).length), (10, .int .i64 (0 : Int))], [(0, .box (TSession.c a0)), (1, .box (TSession.c b1)), (2, .box [.int .u32 0, .int .u32 0, .int .i64 0, .bool false, .int .u32 0, .nils, .nils, .int .i64 0, .int .i64 0, .bool false, .bool false, .bool false, .int .u32 0, .nils]), (3, .box [.int .u32 0, .int .u32 0, .int .i64 0, .bool false, .int .u32 0, .nils, .nils, .int .i64 0, .int .i64 0, .bool false, .bool false, .bool false, .int .u32 0, .nils]), (4, .row 7 34 (([b1.Last] : List TDesc).map TDesc.c)), (5, .row 7 34 (([a0.Last] : List TDesc).map TDesc.c))], 6⟩, Conv.keep [0, 1, 2, 3, 4, 5] [] [2, 3, 4, 6, 7, 8, 9, 10] rfl rfl (viewE_cons rfl rfl (viewE_cons rfl rfl (viewE_cons rfl rfl (viewE_cons rfl rfl (viewE_cons rfl rfl (viewE_cons rfl rfl (viewE_cons rfl rfl (viewE_cons rfl rfl viewE_nil)))))))) rfl rfl, 0, a0, b1, ([b1.Last] : List TDesc), ([a0.Last] : List TDesc), (by omega), rfl, hZ_79, rfl⟩ ?_
 rintro _ _ ⟨i10, a3, b4, toA8, toB9, hi_79, rfl, hL_79, rfl⟩ again_79 out_79 Q_79 hagain_79 hout_79 hQ_79
 refine WK.seq ?_
 refine WK.sr mixed ?_
 iterate 2 refine GX.m rfl ?_
 refine GX.pure (v' := .int .i64 (fates2.length : Int)) rfl rfl rfl rfl (len_map _ _) ?_
 refine GX.q (.bool (decide ((i10 : Int) < (fates2.length : Int)))) ?_
 refine GX.done ?_
 rcases bool_two (decide ((i10 : Int) < (fates2.length : Int))) with hb80 | hb80
 ·rw [hb80]
  rw [drop_end hb80, F20_crossroadsref17_Run_l1] at hL_79
  refine WK.condF rfl ?_
  refine WK.exit ?_
  refine QF.exit (hout_79 _ ?_)
  subst hL_79
  try dsimp only [cond_true, cond_false] at hR
  refine WK.seq ?_
  refine WK.drawn mixed ?_
  refine RD.q (.agg (TSession.c a3)) ?_
  refine RD.q (.agg (TSession.c b4)) ?_
  refine RD.step0 (heap' := [(0, .box (TSession.c a3)), (1, .box (TSession.c b4)), (2, .box (TSession.c a3)), (3, .box [.int .u32 0, .int .u32 0, .int .i64 0, .bool false, .int .u32 0, .nils, .nils, .int .i64 0, .int .i64 0, .bool false, .bool false, .bool false, .int .u32 0, .nils]), (4, .row 7 34 (toA8.map TDesc.c)), (5, .row 7 34 (toB9.map TDesc.c))]) (next' := 6) rfl rfl rfl rfl rfl ?_
  refine RD.step0 (heap' := [(0, .box (TSession.c a3)), (1, .box (TSession.c b4)), (2, .box (TSession.c a3)), (3, .box (TSession.c b4)), (4, .row 7 34 (toA8.map TDesc.c)), (5, .row 7 34 (toB9.map TDesc.c))]) (next' := 6) rfl rfl rfl rfl rfl ?_
  refine RD.done rfl ?_
  refine WK.ret ?_
  obtain rfl := Option.some.inj hR
  exact RetQ.fr [] (.inr rfl) rfl rfl rfl rfl
 ·rw [hb80]
  obtain ⟨x10, hx79, hd79, hlt79⟩ := drop_more hb80
  rw [hd79, F20_crossroadsref17_Run_l1] at hL_79
  refine WK.condT rfl ?_
  refine WK.skip ?_
  refine WK.seq ?_
  refine WK.blockK (fun _ hK81 => ?_)
  refine WK.sr mixed ?_
  iterate 2 refine GX.m rfl ?_
  refine GX.idxT (c := c_i64) (x := x10) rfl rfl rfl (Int.natCast_nonneg _) hx79 ?_
  refine GX.q (.int .i64 x10) ?_
  refine GX.m rfl ?_
  refine GX.done ?_
  refine WK.seq ?_
  refine WK.sr mixed ?_
  refine GX.m rfl ?_
  refine GX.q (.bool (decide (x10 = 4))) ?_
  refine GX.done ?_
  rcases bool_two (decide (x10 = 4)) with hb82 | hb82
  ·rw [hb82]; try simp only [hb82, bb] at hL_79
   refine WK.condF rfl ?_
   refine WK.skip ?_
   refine WK.seq ?_
   refine WK.sr mixed ?_
   refine GX.m rfl ?_
   refine GX.q (.bool (decide (x10 = 5))) ?_
   refine GX.done ?_
   rcases bool_two (decide (x10 = 5)) with hb83 | hb83
   ·rw [hb83]; try simp only [hb83, bb] at hL_79
    refine WK.condF rfl ?_
    refine WK.skip ?_
    refine WK.seq ?_
    refine WK.sr mixed ?_
    refine GX.m rfl ?_
    refine GX.q (.bool (decide (x10 = 0))) ?_
    refine GX.m rfl ?_
    rcases bool_two (decide (x10 = 0)) with hb84 | hb84
    ·rw [hb84]; try simp only [hb84, bb] at hL_79
     refine GX.m rfl ?_
     iterate 2 refine GX.q (.bool (decide (x10 = 2))) ?_
     refine GX.m rfl ?_
     rcases bool_two (decide (x10 = 2)) with hb85 | hb85
     ·rw [hb85]; try simp only [hb85, bb] at hL_79
      refine GX.m rfl ?_
      iterate 2 refine GX.q (.bool (decide (x10 = 6))) ?_
      refine GX.m rfl ?_
      rcases bool_two (decide (x10 = 6)) with hb86 | hb86
      ·rw [hb86]; try simp only [hb86, bb] at hL_79
       iterate 3 refine GX.skip rfl rfl ?_
       refine GX.q (.bool false) ?_
       refine GX.done ?_
       refine WK.condF rfl ?_
       refine WK.skip ?_
       refine WK.sr mixed ?_
       refine GX.m rfl ?_
       refine GX.q (.bool (decide (x10 = 1))) ?_
       refine GX.m rfl ?_
       rcases bool_two (decide (x10 = 1)) with hb87 | hb87
       ·rw [hb87]; try simp only [hb87, bb] at hL_79
        refine GX.m rfl ?_
        iterate 2 refine GX.q (.bool (decide (x10 = 3))) ?_
        refine GX.m rfl ?_
        rcases bool_two (decide (x10 = 3)) with hb88 | hb88
        ·rw [hb88]; try simp only [hb88, bb] at hL_79
         refine GX.m rfl ?_
         iterate 2 refine GX.q (.bool (decide (x10 = 7))) ?_
         refine GX.m rfl ?_
         rcases bool_two (decide (x10 = 7)) with hb89 | hb89
         ·rw [hb89]; try simp only [hb89, bb] at hL_79
          iterate 3 refine GX.skip rfl rfl ?_
          refine GX.q (.bool false) ?_
          refine GX.done ?_
          refine WK.condF rfl ?_
          refine WK.skip ?_
          refine WK.nil (QF.normal (hK81 _ ?_))
          refine WK.regx mixed ?_
          refine GX.m rfl ?_
          refine GX.pure (v' := .int .i64 ((i10 + 1 : Nat) : Int)) rfl rfl rfl rfl (congrArg (PVal.int .i64) (wrap_up hlt79 hlen_79)) ?_
          refine GX.m rfl ?_
          refine GX.done ?_
          refine WK.nil (QF.normal ?_)
          exact hagain_79 _ (fates2.length - (i10 + 1)) ⟨[(2, .ro 1 (fates2.map c_i64)), (3, .ptr 0 0), (4, .ptr 1 0), (6, .ptr 2 0), (7, .ptr 3 0), (8, .own 4 7 0 toA8.length), (9, .own 5 7 0 toB9.length), (10, .int .i64 ((i10 + 1) : Int))], [(0, .box (TSession.c a3)), (1, .box (TSession.c b4)), (2, .box [.int .u32 0, .int .u32 0, .int .i64 0, .bool false, .int .u32 0, .nils, .nils, .int .i64 0, .int .i64 0, .bool false, .bool false, .bool false, .int .u32 0, .nils]), (3, .box [.int .u32 0, .int .u32 0, .int .i64 0, .bool false, .int .u32 0, .nils, .nils, .int .i64 0, .int .i64 0, .bool false, .bool false, .bool false, .int .u32 0, .nils]), (4, .row 7 34 (toA8.map TDesc.c)), (5, .row 7 34 (toB9.map TDesc.c))], 6⟩ (by omega) (Conv.keep [0, 1, 2, 3, 4, 5] [] [2, 3, 4, 6, 7, 8, 9, 10] rfl rfl (viewE_cons rfl rfl (viewE_cons rfl rfl (viewE_cons rfl rfl (viewE_cons rfl rfl (viewE_cons rfl rfl (viewE_cons rfl rfl (viewE_cons rfl rfl (viewE_cons rfl rfl viewE_nil)))))))) rfl rfl) ⟨i10 + 1, a3, b4, toA8, toB9, (by omega), rfl, hL_79, rfl⟩
         ·rw [hb89]; try simp only [hb89, bb] at hL_79
          refine GX.m rfl ?_
          refine GX.q (.int .i64 (toB9.length : Int)) ?_
          iterate 2 refine GX.q (.bool (decide (0 < (toB9.length : Int)))) ?_
          refine GX.done ?_
          rcases bool_two (decide (0 < (toB9.length : Int))) with hb90 | hb90
          ·rw [hb90]; try simp only [hb90, bb] at hL_79
           refine WK.condF rfl ?_
           refine WK.skip ?_
           refine WK.nil (QF.normal (hK81 _ ?_))
           refine WK.regx mixed ?_
           refine GX.m rfl ?_
           refine GX.pure (v' := .int .i64 ((i10 + 1 : Nat) : Int)) rfl rfl rfl rfl (congrArg (PVal.int .i64) (wrap_up hlt79 hlen_79)) ?_
           refine GX.m rfl ?_
           refine GX.done ?_
           refine WK.nil (QF.normal ?_)
           exact hagain_79 _ (fates2.length - (i10 + 1)) ⟨[(2, .ro 1 (fates2.map c_i64)), (3, .ptr 0 0), (4, .ptr 1 0), (6, .ptr 2 0), (7, .ptr 3 0), (8, .own 4 7 0 toA8.length), (9, .own 5 7 0 toB9.length), (10, .int .i64 ((i10 + 1) : Int))], [(0, .box (TSession.c a3)), (1, .box (TSession.c b4)), (2, .box [.int .u32 0, .int .u32 0, .int .i64 0, .bool false, .int .u32 0, .nils, .nils, .int .i64 0, .int .i64 0, .bool false, .bool false, .bool false, .int .u32 0, .nils]), (3, .box [.int .u32 0, .int .u32 0, .int .i64 0, .bool false, .int .u32 0, .nils, .nils, .int .i64 0, .int .i64 0, .bool false, .bool false, .bool false, .int .u32 0, .nils]), (4, .row 7 34 (toA8.map TDesc.c)), (5, .row 7 34 (toB9.map TDesc.c))], 6⟩ (by omega) (Conv.keep [0, 1, 2, 3, 4, 5] [] [2, 3, 4, 6, 7, 8, 9, 10] rfl rfl (viewE_cons rfl rfl (viewE_cons rfl rfl (viewE_cons rfl rfl (viewE_cons rfl rfl (viewE_cons rfl rfl (viewE_cons rfl rfl (viewE_cons rfl rfl (viewE_cons rfl rfl viewE_nil)))))))) rfl rfl) ⟨i10 + 1, a3, b4, toA8, toB9, (by omega), rfl, hL_79, rfl⟩
          ·rw [hb90]; try simp only [hb90, bb] at hL_79
           refine WK.condT rfl ?_
           refine WK.sr mixed ?_
           refine GX.m rfl ?_
           generalize hx990 : getI toB9 0 = x990 at hL_79
           rcases x990 with _ | x990
           ·try dsimp only at hL_79
            subst hL_79
            try dsimp only at hR
            cases hR
           try dsimp only at hL_79
           obtain ⟨hx9900, hx990j, hx990l, hx990⟩ := getI_some hx990
           refine GX.pure (v' := .eptr 5 7 0 0) rfl rfl rfl (core_idxoT (c := TDesc.c) (L := toB9) (j := 0) rfl hx990j hx990l (by exact Nat.le_refl _)) rfl ?_
           refine GX.pure (v' := .agg (TDesc.c x990)) rfl rfl rfl (core_loaT (c := TDesc.c) (L := toB9) (x := x990) rfl hx990 rfl) rfl ?_
           refine GX.step (v' := .ptr 6 0) (heap' := [(0, .box (TSession.c a3)), (1, .box (TSession.c b4)), (2, .box [.int .u32 0, .int .u32 0, .int .i64 0, .bool false, .int .u32 0, .nils, .nils, .int .i64 0, .int .i64 0, .bool false, .bool false, .bool false, .int .u32 0, .nils]), (3, .box [.int .u32 0, .int .u32 0, .int .i64 0, .bool false, .int .u32 0, .nils, .nils, .int .i64 0, .int .i64 0, .bool false, .bool false, .bool false, .int .u32 0, .nils]), (4, .row 7 34 (toA8.map TDesc.c)), (5, .row 7 34 (toB9.map TDesc.c)), (6, .box [.int .i64 0, .int .i64 0, .bool false, .bool false, .bool false, .int .u32 0, .nils])]) (next' := 7) rfl rfl rfl rfl rfl rfl rfl ?_
           refine GX.step0 (heap' := [(0, .box (TSession.c a3)), (1, .box (TSession.c b4)), (2, .box [.int .u32 0, .int .u32 0, .int .i64 0, .bool false, .int .u32 0, .nils, .nils, .int .i64 0, .int .i64 0, .bool false, .bool false, .bool false, .int .u32 0, .nils]), (3, .box [.int .u32 0, .int .u32 0, .int .i64 0, .bool false, .int .u32 0, .nils, .nils, .int .i64 0, .int .i64 0, .bool false, .bool false, .bool false, .int .u32 0, .nils]), (4, .row 7 34 (toA8.map TDesc.c)), (5, .row 7 34 (toB9.map TDesc.c)), (6, .box (TDesc.c x990))]) (next' := 7) rfl rfl rfl rfl rfl ?_
           refine GX.done ?_
           refine WK.seq ?_
           refine WK.conv (st' := ⟨[(2, .ro 1 (fates2.map c_i64)), (3, .ptr 0 0), (4, .ptr 1 0), (6, .ptr 2 0), (7, .ptr 3 0), (8, .own 4 7 0 toA8.length), (9, .ro 7 (toB9.map TDesc.c)), (10, .int .i64 (i10 : Int)), (11, .int .i64 x10), (21, .ptr 5 0), (69, .int .i64 x10), (70, .bool false), (73, .int .i64 x10), (74, .bool false), (77, .hole), (78, .hole), (79, .hole), (113, .int .i64 x10), (114, .bool false), (117, .int .i64 x10), (118, .bool true), (121, .ro 7 (toB9.map TDesc.c)), (122, .int .i64 (toB9.length : Int)), (123, .bool true)], [(0, .box (TSession.c a3)), (1, .box (TSession.c b4)), (2, .box [.int .u32 0, .int .u32 0, .int .i64 0, .bool false, .int .u32 0, .nils, .nils, .int .i64 0, .int .i64 0, .bool false, .bool false, .bool false, .int .u32 0, .nils]), (3, .box [.int .u32 0, .int .u32 0, .int .i64 0, .bool false, .int .u32 0, .nils, .nils, .int .i64 0, .int .i64 0, .bool false, .bool false, .bool false, .int .u32 0, .nils]), (4, .row 7 34 (toA8.map TDesc.c)), (5, .box (TDesc.c x990))], 6⟩) (Conv.keep [0, 1, 2, 3, 4, 6] [5] [2, 3, 4, 6, 7, 8, 9, 10, 11, 21, 69, 70, 73, 74, 77, 78, 79, 113, 114, 117, 118, 121, 122, 123] rfl rfl (viewE_cons rfl rfl (viewE_cons rfl rfl (viewE_cons rfl rfl (viewE_cons rfl rfl (viewE_cons rfl rfl (viewE_cons rfl rfl (viewE_cons rfl (view_rowT rfl rfl) (viewE_cons rfl rfl (viewE_cons rfl rfl (viewE_cons rfl rfl (viewE_cons rfl rfl (viewE_cons rfl rfl (viewE_cons rfl rfl (viewE_cons rfl rfl (viewE_cons rfl rfl (viewE_cons rfl rfl (viewE_cons rfl rfl (viewE_cons rfl rfl (viewE_cons rfl rfl (viewE_cons rfl rfl (viewE_cons rfl rfl (viewE_cons rfl (view_rowT rfl rfl) (viewE_cons rfl rfl (viewE_cons rfl rfl viewE_nil)))))))))))))))))))))))) rfl rfl) ?_ (by simp)
           refine WK.regx mixed ?_
           refine GX.step (v' := .own 6 7 0 (([] : List TDesc)).length) (heap' := [(0, .box (TSession.c a3)), (1, .box (TSession.c b4)), (2, .box [.int .u32 0, .int .u32 0, .int .i64 0, .bool false, .int .u32 0, .nils, .nils, .int .i64 0, .int .i64 0, .bool false, .bool false, .bool false, .int .u32 0, .nils]), (3, .box [.int .u32 0, .int .u32 0, .int .i64 0, .bool false, .int .u32 0, .nils, .nils, .int .i64 0, .int .i64 0, .bool false, .bool false, .bool false, .int .u32 0, .nils]), (4, .row 7 34 (toA8.map TDesc.c)), (5, .box (TDesc.c x990)), (6, .row 7 34 (([] : List TDesc).map TDesc.c))]) (next' := 7) rfl rfl rfl rfl rfl rfl rfl ?_
           refine GX.m rfl ?_
           rcases bool_two (decide ((1 : Int) ≤ (toB9.length : Int))) with hg93 | hg93
           ·simp only [hg93, bb] at hL_79
            try dsimp only at hL_79
            subst hL_79
            try dsimp only at hR
            cases hR
           simp only [hg93, bb] at hL_79
           have hg93_ := of_decide_eq_true hg93
           refine GX.sliceLo (c := TDesc.c) (M := (toB9.drop 1)) rfl rfl rfl (by omega) (by omega) rfl ?_
           rcases bool_two (decide ((toB9.drop 1).length < 1099511627776)) with hg94 | hg94
           ·simp only [hg94, bb] at hL_79
            try dsimp only at hL_79
            subst hL_79
            try dsimp only at hR
            cases hR
           simp only [hg94, bb] at hL_79
           have hg94_ := of_decide_eq_true hg94
           refine GX.appT (c := TDesc.c) (L := ([] : List TDesc)) (X := (toB9.drop 1)) (heap' := [(0, .box (TSession.c a3)), (1, .box (TSession.c b4)), (2, .box [.int .u32 0, .int .u32 0, .int .i64 0, .bool false, .int .u32 0, .nils, .nils, .int .i64 0, .int .i64 0, .bool false, .bool false, .bool false, .int .u32 0, .nils]), (3, .box [.int .u32 0, .int .u32 0, .int .i64 0, .bool false, .int .u32 0, .nils, .nils, .int .i64 0, .int .i64 0, .bool false, .bool false, .bool false, .int .u32 0, .nils]), (4, .row 7 34 (toA8.map TDesc.c)), (5, .box (TDesc.c x990)), (7, .row 7 34 ((toB9.drop 1).map TDesc.c))]) (next' := 8) rfl rfl rfl rfl elems_ro (by ((try simp only [List.length_append, List.length_cons, List.length_nil, List.length_map, decide_eq_true_eq, decide_eq_false_iff_not] at *) <;> omega)) (by ((try simp only [List.length_append, List.length_cons, List.length_nil, List.length_map, decide_eq_true_eq, decide_eq_false_iff_not] at *) <;> omega)) rfl rfl rfl rfl ?_
           refine GX.m rfl ?_
           refine GX.done ?_
           refine WK.seq ?_
           refine WK.sr mixed ?_
           refine GX.m rfl ?_
           refine GX.q (.bool (decide (x10 = 7))) ?_
           refine GX.done ?_
           rw [hb89]
           refine WK.condT rfl ?_
           refine WK.regx mixed ?_
           refine GX.m rfl ?_
           refine GX.q (.agg (TDesc.c x990)) ?_
           refine GX.step (v' := .own 8 7 0 (([x990] : List TDesc)).length) (heap' := [(0, .box (TSession.c a3)), (1, .box (TSession.c b4)), (2, .box [.int .u32 0, .int .u32 0, .int .i64 0, .bool false, .int .u32 0, .nils, .nils, .int .i64 0, .int .i64 0, .bool false, .bool false, .bool false, .int .u32 0, .nils]), (3, .box [.int .u32 0, .int .u32 0, .int .i64 0, .bool false, .int .u32 0, .nils, .nils, .int .i64 0, .int .i64 0, .bool false, .bool false, .bool false, .int .u32 0, .nils]), (4, .row 7 34 (toA8.map TDesc.c)), (5, .box (TDesc.c x990)), (7, .row 7 34 ((toB9.drop 1).map TDesc.c)), (8, .row 7 34 (([x990] : List TDesc).map TDesc.c))]) (next' := 9) rfl rfl rfl rfl rfl rfl rfl ?_
           refine GX.appT (c := TDesc.c) (L := (toB9.drop 1)) (X := ([x990] : List TDesc)) (heap' := [(0, .box (TSession.c a3)), (1, .box (TSession.c b4)), (2, .box [.int .u32 0, .int .u32 0, .int .i64 0, .bool false, .int .u32 0, .nils, .nils, .int .i64 0, .int .i64 0, .bool false, .bool false, .bool false, .int .u32 0, .nils]), (3, .box [.int .u32 0, .int .u32 0, .int .i64 0, .bool false, .int .u32 0, .nils, .nils, .int .i64 0, .int .i64 0, .bool false, .bool false, .bool false, .int .u32 0, .nils]), (4, .row 7 34 (toA8.map TDesc.c)), (5, .box (TDesc.c x990)), (8, .row 7 34 (([x990] : List TDesc).map TDesc.c)), (9, .row 7 34 (((toB9.drop 1) ++ ([x990] : List TDesc)).map TDesc.c))]) (next' := 10) rfl rfl rfl rfl (elems_own rfl) (by ((try simp only [List.length_append, List.length_cons, List.length_nil, List.length_map, decide_eq_true_eq, decide_eq_false_iff_not] at *) <;> omega)) (by ((try simp only [List.length_append, List.length_cons, List.length_nil, List.length_map, decide_eq_true_eq, decide_eq_false_iff_not] at *) <;> omega)) rfl rfl rfl rfl ?_
           refine GX.m rfl ?_
           refine GX.done ?_
           refine WK.sr mixed ?_
           refine GX.m rfl ?_
           refine GX.q (.bool (!decide (x10 = 3))) ?_
           refine GX.done ?_
           rw [hb88]
           refine WK.condT rfl ?_
           refine WK.sr mixed ?_
           refine GX.q (.agg (TSession.c b4)) ?_
           refine GX.q (.agg (TDesc.c x990)) ?_
           generalize hc143 : F16_crossroadsref17_Hear b4 x990 = c143 at hL_79
           rcases c143 with _ | c143
           ·try dsimp only at hL_79
            subst hL_79
            try dsimp only at hR
            cases hR
           try dsimp only at hL_79
           obtain ⟨c143a, c143b, c143c, c143d⟩ := c143; try dsimp only at hL_79
           refine GX.callp (r := .tup [.agg [.int .u32 c143a.Own, .int .u32 c143a.Peer, .int .i64 c143a.Phase, .bool c143a.Leads, .int .u32 c143a.Seq, .ro 8 (c143a.Left.map THeader.c), .ro 8 (c143a.Got.map THeader.c), .int .i64 c143a.Last.MTU, .int .i64 c143a.Last.Options, .bool c143a.Last.Init, .bool c143a.Last.More, .bool c143a.Last.Master, .int .u32 c143a.Last.Seq, .ro 8 (c143a.Last.Heads.map THeader.c)], .agg [.int .i64 c143b.MTU, .int .i64 c143b.Options, .bool c143b.Init, .bool c143b.More, .bool c143b.Master, .int .u32 c143b.Seq, .ro 8 (c143b.Heads.map THeader.c)], .bool c143c, .int .i64 c143d]) rfl rfl rfl (f16_ok b4 x990 _ hc143) rfl rfl ?_
           refine GX.m rfl ?_
           refine GX.q (.agg [.int .u32 c143a.Own, .int .u32 c143a.Peer, .int .i64 c143a.Phase, .bool c143a.Leads, .int .u32 c143a.Seq, .ro 8 (c143a.Left.map THeader.c), .ro 8 (c143a.Got.map THeader.c), .int .i64 c143a.Last.MTU, .int .i64 c143a.Last.Options, .bool c143a.Last.Init, .bool c143a.Last.More, .bool c143a.Last.Master, .int .u32 c143a.Last.Seq, .ro 8 (c143a.Last.Heads.map THeader.c)]) ?_
           refine GX.q (.agg [.int .i64 c143b.MTU, .int .i64 c143b.Options, .bool c143b.Init, .bool c143b.More, .bool c143b.Master, .int .u32 c143b.Seq, .ro 8 (c143b.Heads.map THeader.c)]) ?_
           refine GX.q (.bool c143c) ?_
           refine GX.q (.int .i64 c143d) ?_
           refine GX.step (v' := .ptr 10 0) (heap' := [(0, .box (TSession.c a3)), (1, .box (TSession.c b4)), (2, .box [.int .u32 0, .int .u32 0, .int .i64 0, .bool false, .int .u32 0, .nils, .nils, .int .i64 0, .int .i64 0, .bool false, .bool false, .bool false, .int .u32 0, .nils]), (3, .box [.int .u32 0, .int .u32 0, .int .i64 0, .bool false, .int .u32 0, .nils, .nils, .int .i64 0, .int .i64 0, .bool false, .bool false, .bool false, .int .u32 0, .nils]), (4, .row 7 34 (toA8.map TDesc.c)), (5, .box (TDesc.c x990)), (8, .row 7 34 (([x990] : List TDesc).map TDesc.c)), (9, .row 7 34 (((toB9.drop 1) ++ ([x990] : List TDesc)).map TDesc.c)), (10, .box [.int .u32 0, .int .u32 0, .int .i64 0, .bool false, .int .u32 0, .nils, .nils, .int .i64 0, .int .i64 0, .bool false, .bool false, .bool false, .int .u32 0, .nils])]) (next' := 11) rfl rfl rfl rfl rfl rfl rfl ?_
           refine GX.step (v' := .ptr 11 0) (heap' := [(0, .box (TSession.c a3)), (1, .box (TSession.c b4)), (2, .box [.int .u32 0, .int .u32 0, .int .i64 0, .bool false, .int .u32 0, .nils, .nils, .int .i64 0, .int .i64 0, .bool false, .bool false, .bool false, .int .u32 0, .nils]), (3, .box [.int .u32 0, .int .u32 0, .int .i64 0, .bool false, .int .u32 0, .nils, .nils, .int .i64 0, .int .i64 0, .bool false, .bool false, .bool false, .int .u32 0, .nils]), (4, .row 7 34 (toA8.map TDesc.c)), (5, .box (TDesc.c x990)), (8, .row 7 34 (([x990] : List TDesc).map TDesc.c)), (9, .row 7 34 (((toB9.drop 1) ++ ([x990] : List TDesc)).map TDesc.c)), (10, .box [.int .u32 0, .int .u32 0, .int .i64 0, .bool false, .int .u32 0, .nils, .nils, .int .i64 0, .int .i64 0, .bool false, .bool false, .bool false, .int .u32 0, .nils]), (11, .box [.int .i64 0, .int .i64 0, .bool false, .bool false, .bool false, .int .u32 0, .nils])]) (next' := 12) rfl rfl rfl rfl rfl rfl rfl ?_
           refine GX.step0 (heap' := [(0, .box (TSession.c a3)), (1, .box (TSession.c b4)), (2, .box [.int .u32 0, .int .u32 0, .int .i64 0, .bool false, .int .u32 0, .nils, .nils, .int .i64 0, .int .i64 0, .bool false, .bool false, .bool false, .int .u32 0, .nils]), (3, .box [.int .u32 0, .int .u32 0, .int .i64 0, .bool false, .int .u32 0, .nils, .nils, .int .i64 0, .int .i64 0, .bool false, .bool false, .bool false, .int .u32 0, .nils]), (4, .row 7 34 (toA8.map TDesc.c)), (5, .box (TDesc.c x990)), (8, .row 7 34 (([x990] : List TDesc).map TDesc.c)), (9, .row 7 34 (((toB9.drop 1) ++ ([x990] : List TDesc)).map TDesc.c)), (10, .box (TSession.c c143a)), (11, .box [.int .i64 0, .int .i64 0, .bool false, .bool false, .bool false, .int .u32 0, .nils])]) (next' := 12) rfl rfl rfl rfl rfl ?_
           refine GX.step0 (heap' := [(0, .box (TSession.c a3)), (1, .box (TSession.c b4)), (2, .box [.int .u32 0, .int .u32 0, .int .i64 0, .bool false, .int .u32 0, .nils, .nils, .int .i64 0, .int .i64 0, .bool false, .bool false, .bool false, .int .u32 0, .nils]), (3, .box [.int .u32 0, .int .u32 0, .int .i64 0, .bool false, .int .u32 0, .nils, .nils, .int .i64 0, .int .i64 0, .bool false, .bool false, .bool false, .int .u32 0, .nils]), (4, .row 7 34 (toA8.map TDesc.c)), (5, .box (TDesc.c x990)), (8, .row 7 34 (([x990] : List TDesc).map TDesc.c)), (9, .row 7 34 (((toB9.drop 1) ++ ([x990] : List TDesc)).map TDesc.c)), (10, .box (TSession.c c143a)), (11, .box (TDesc.c c143b))]) (next' := 12) rfl rfl rfl rfl rfl ?_
           iterate 2 refine GX.m rfl ?_
           refine GX.done ?_
           refine WK.sr mixed ?_
           refine GX.q (.agg (TSession.c c143a)) ?_
           refine GX.step0 (heap' := [(0, .box (TSession.c a3)), (1, .box (TSession.c c143a)), (2, .box [.int .u32 0, .int .u32 0, .int .i64 0, .bool false, .int .u32 0, .nils, .nils, .int .i64 0, .int .i64 0, .bool false, .bool false, .bool false, .int .u32 0, .nils]), (3, .box [.int .u32 0, .int .u32 0, .int .i64 0, .bool false, .int .u32 0, .nils, .nils, .int .i64 0, .int .i64 0, .bool false, .bool false, .bool false, .int .u32 0, .nils]), (4, .row 7 34 (toA8.map TDesc.c)), (5, .box (TDesc.c x990)), (8, .row 7 34 (([x990] : List TDesc).map TDesc.c)), (9, .row 7 34 (((toB9.drop 1) ++ ([x990] : List TDesc)).map TDesc.c)), (10, .box (TSession.c c143a)), (11, .box (TDesc.c c143b))]) (next' := 12) rfl rfl rfl rfl rfl ?_
           refine GX.done ?_
           refine WK.sr mixed ?_
           refine GX.m rfl ?_
           refine GX.done ?_
           rcases bool_two (c143c) with hb95 | hb95
           ·rw [hb95]; try simp only [hb95, bb] at hL_79
            refine WK.condF rfl ?_
            refine WK.skip ?_
            refine WK.nil (QF.normal (hK81 _ ?_))
            refine WK.regx mixed ?_
            refine GX.m rfl ?_
            refine GX.pure (v' := .int .i64 ((i10 + 1 : Nat) : Int)) rfl rfl rfl rfl (congrArg (PVal.int .i64) (wrap_up hlt79 hlen_79)) ?_
            refine GX.m rfl ?_
            refine GX.done ?_
            refine WK.nil (QF.normal ?_)
            exact hagain_79 _ (fates2.length - (i10 + 1)) ⟨[(2, .ro 1 (fates2.map c_i64)), (3, .ptr 0 0), (4, .ptr 1 0), (6, .ptr 2 0), (7, .ptr 3 0), (8, .own 4 7 0 toA8.length), (9, .own 5 7 0 ((toB9.drop 1) ++ ([x990] : List TDesc)).length), (10, .int .i64 ((i10 + 1) : Int))], [(0, .box (TSession.c a3)), (1, .box (TSession.c c143a)), (2, .box [.int .u32 0, .int .u32 0, .int .i64 0, .bool false, .int .u32 0, .nils, .nils, .int .i64 0, .int .i64 0, .bool false, .bool false, .bool false, .int .u32 0, .nils]), (3, .box [.int .u32 0, .int .u32 0, .int .i64 0, .bool false, .int .u32 0, .nils, .nils, .int .i64 0, .int .i64 0, .bool false, .bool false, .bool false, .int .u32 0, .nils]), (4, .row 7 34 (toA8.map TDesc.c)), (5, .row 7 34 (((toB9.drop 1) ++ ([x990] : List TDesc)).map TDesc.c))], 6⟩ (by omega) (Conv.keep [0, 1, 2, 3, 4, 9] [] [2, 3, 4, 6, 7, 8, 9, 10] rfl rfl (viewE_cons rfl rfl (viewE_cons rfl rfl (viewE_cons rfl rfl (viewE_cons rfl rfl (viewE_cons rfl rfl (viewE_cons rfl rfl (viewE_cons rfl rfl (viewE_cons rfl rfl viewE_nil)))))))) rfl rfl) ⟨i10 + 1, a3, c143a, toA8, ((toB9.drop 1) ++ ([x990] : List TDesc)), (by omega), rfl, hL_79, rfl⟩
           ·rw [hb95]; try simp only [hb95, bb] at hL_79
            refine WK.condT rfl ?_
            refine WK.regx mixed ?_
            refine GX.m rfl ?_
            refine GX.q (.agg (TDesc.c c143b)) ?_
            refine GX.step (v' := .own 12 7 0 (([c143b] : List TDesc)).length) (heap' := [(0, .box (TSession.c a3)), (1, .box (TSession.c c143a)), (2, .box [.int .u32 0, .int .u32 0, .int .i64 0, .bool false, .int .u32 0, .nils, .nils, .int .i64 0, .int .i64 0, .bool false, .bool false, .bool false, .int .u32 0, .nils]), (3, .box [.int .u32 0, .int .u32 0, .int .i64 0, .bool false, .int .u32 0, .nils, .nils, .int .i64 0, .int .i64 0, .bool false, .bool false, .bool false, .int .u32 0, .nils]), (4, .row 7 34 (toA8.map TDesc.c)), (5, .box (TDesc.c x990)), (8, .row 7 34 (([x990] : List TDesc).map TDesc.c)), (9, .row 7 34 (((toB9.drop 1) ++ ([x990] : List TDesc)).map TDesc.c)), (10, .box (TSession.c c143a)), (11, .box (TDesc.c c143b)), (12, .row 7 34 (([c143b] : List TDesc).map TDesc.c))]) (next' := 13) rfl rfl rfl rfl rfl rfl rfl ?_
            rcases bool_two (decide (toA8.length < 1099511627776)) with hg96 | hg96
            ·simp only [hg96, bb] at hL_79
             try dsimp only at hL_79
             subst hL_79
             try dsimp only at hR
             cases hR
            simp only [hg96, bb] at hL_79
            have hg96_ := of_decide_eq_true hg96
            refine GX.appT (c := TDesc.c) (L := toA8) (X := ([c143b] : List TDesc)) (heap' := [(0, .box (TSession.c a3)), (1, .box (TSession.c c143a)), (2, .box [.int .u32 0, .int .u32 0, .int .i64 0, .bool false, .int .u32 0, .nils, .nils, .int .i64 0, .int .i64 0, .bool false, .bool false, .bool false, .int .u32 0, .nils]), (3, .box [.int .u32 0, .int .u32 0, .int .i64 0, .bool false, .int .u32 0, .nils, .nils, .int .i64 0, .int .i64 0, .bool false, .bool false, .bool false, .int .u32 0, .nils]), (5, .box (TDesc.c x990)), (8, .row 7 34 (([x990] : List TDesc).map TDesc.c)), (9, .row 7 34 (((toB9.drop 1) ++ ([x990] : List TDesc)).map TDesc.c)), (10, .box (TSession.c c143a)), (11, .box (TDesc.c c143b)), (12, .row 7 34 (([c143b] : List TDesc).map TDesc.c)), (13, .row 7 34 ((toA8 ++ ([c143b] : List TDesc)).map TDesc.c))]) (next' := 14) rfl rfl rfl rfl (elems_own rfl) (by ((try simp only [List.length_append, List.length_cons, List.length_nil, List.length_map, decide_eq_true_eq, decide_eq_false_iff_not] at *) <;> omega)) (by ((try simp only [List.length_append, List.length_cons, List.length_nil, List.length_map, decide_eq_true_eq, decide_eq_false_iff_not] at *) <;> omega)) rfl rfl rfl rfl ?_
            refine GX.m rfl ?_
            refine GX.done ?_
            refine WK.nil (QF.normal (hK81 _ ?_))
            refine WK.regx mixed ?_
            refine GX.m rfl ?_
            refine GX.pure (v' := .int .i64 ((i10 + 1 : Nat) : Int)) rfl rfl rfl rfl (congrArg (PVal.int .i64) (wrap_up hlt79 hlen_79)) ?_
            refine GX.m rfl ?_
            refine GX.done ?_
            refine WK.nil (QF.normal ?_)
            exact hagain_79 _ (fates2.length - (i10 + 1)) ⟨[(2, .ro 1 (fates2.map c_i64)), (3, .ptr 0 0), (4, .ptr 1 0), (6, .ptr 2 0), (7, .ptr 3 0), (8, .own 4 7 0 (toA8 ++ ([c143b] : List TDesc)).length), (9, .own 5 7 0 ((toB9.drop 1) ++ ([x990] : List TDesc)).length), (10, .int .i64 ((i10 + 1) : Int))], [(0, .box (TSession.c a3)), (1, .box (TSession.c c143a)), (2, .box [.int .u32 0, .int .u32 0, .int .i64 0, .bool false, .int .u32 0, .nils, .nils, .int .i64 0, .int .i64 0, .bool false, .bool false, .bool false, .int .u32 0, .nils]), (3, .box [.int .u32 0, .int .u32 0, .int .i64 0, .bool false, .int .u32 0, .nils, .nils, .int .i64 0, .int .i64 0, .bool false, .bool false, .bool false, .int .u32 0, .nils]), (4, .row 7 34 ((toA8 ++ ([c143b] : List TDesc)).map TDesc.c)), (5, .row 7 34 (((toB9.drop 1) ++ ([x990] : List TDesc)).map TDesc.c))], 6⟩ (by omega) (Conv.keep [0, 1, 2, 3, 13, 9] [] [2, 3, 4, 6, 7, 8, 9, 10] rfl rfl (viewE_cons rfl rfl (viewE_cons rfl rfl (viewE_cons rfl rfl (viewE_cons rfl rfl (viewE_cons rfl rfl (viewE_cons rfl rfl (viewE_cons rfl rfl (viewE_cons rfl rfl viewE_nil)))))))) rfl rfl) ⟨i10 + 1, a3, c143a, (toA8 ++ ([c143b] : List TDesc)), ((toB9.drop 1) ++ ([x990] : List TDesc)), (by omega), rfl, hL_79, rfl⟩
        ·rw [hb88]; try simp only [hb88, bb] at hL_79
         iterate 2 refine GX.skip rfl rfl ?_
         refine GX.q (.bool true) ?_
         iterate 2 refine GX.m rfl ?_
         refine GX.q (.int .i64 (toB9.length : Int)) ?_
         iterate 2 refine GX.q (.bool (decide (0 < (toB9.length : Int)))) ?_
         refine GX.done ?_
         rcases bool_two (decide (0 < (toB9.length : Int))) with hb97 | hb97
         ·rw [hb97]; try simp only [hb97, bb] at hL_79
          refine WK.condF rfl ?_
          refine WK.skip ?_
          refine WK.nil (QF.normal (hK81 _ ?_))
          refine WK.regx mixed ?_
          refine GX.m rfl ?_
          refine GX.pure (v' := .int .i64 ((i10 + 1 : Nat) : Int)) rfl rfl rfl rfl (congrArg (PVal.int .i64) (wrap_up hlt79 hlen_79)) ?_
          refine GX.m rfl ?_
          refine GX.done ?_
          refine WK.nil (QF.normal ?_)
          exact hagain_79 _ (fates2.length - (i10 + 1)) ⟨[(2, .ro 1 (fates2.map c_i64)), (3, .ptr 0 0), (4, .ptr 1 0), (6, .ptr 2 0), (7, .ptr 3 0), (8, .own 4 7 0 toA8.length), (9, .own 5 7 0 toB9.length), (10, .int .i64 ((i10 + 1) : Int))], [(0, .box (TSession.c a3)), (1, .box (TSession.c b4)), (2, .box [.int .u32 0, .int .u32 0, .int .i64 0, .bool false, .int .u32 0, .nils, .nils, .int .i64 0, .int .i64 0, .bool false, .bool false, .bool false, .int .u32 0, .nils]), (3, .box [.int .u32 0, .int .u32 0, .int .i64 0, .bool false, .int .u32 0, .nils, .nils, .int .i64 0, .int .i64 0, .bool false, .bool false, .bool false, .int .u32 0, .nils]), (4, .row 7 34 (toA8.map TDesc.c)), (5, .row 7 34 (toB9.map TDesc.c))], 6⟩ (by omega) (Conv.keep [0, 1, 2, 3, 4, 5] [] [2, 3, 4, 6, 7, 8, 9, 10] rfl rfl (viewE_cons rfl rfl (viewE_cons rfl rfl (viewE_cons rfl rfl (viewE_cons rfl rfl (viewE_cons rfl rfl (viewE_cons rfl rfl (viewE_cons rfl rfl (viewE_cons rfl rfl viewE_nil)))))))) rfl rfl) ⟨i10 + 1, a3, b4, toA8, toB9, (by omega), rfl, hL_79, rfl⟩
         ·rw [hb97]; try simp only [hb97, bb] at hL_79
          refine WK.condT rfl ?_
          refine WK.sr mixed ?_
          refine GX.m rfl ?_
          generalize hx997 : getI toB9 0 = x997 at hL_79
          rcases x997 with _ | x997
          ·try dsimp only at hL_79
           subst hL_79
           try dsimp only at hR
           cases hR
          try dsimp only at hL_79
          obtain ⟨hx9970, hx997j, hx997l, hx997⟩ := getI_some hx997
          refine GX.pure (v' := .eptr 5 7 0 0) rfl rfl rfl (core_idxoT (c := TDesc.c) (L := toB9) (j := 0) rfl hx997j hx997l (by exact Nat.le_refl _)) rfl ?_
          refine GX.pure (v' := .agg (TDesc.c x997)) rfl rfl rfl (core_loaT (c := TDesc.c) (L := toB9) (x := x997) rfl hx997 rfl) rfl ?_
          refine GX.step (v' := .ptr 6 0) (heap' := [(0, .box (TSession.c a3)), (1, .box (TSession.c b4)), (2, .box [.int .u32 0, .int .u32 0, .int .i64 0, .bool false, .int .u32 0, .nils, .nils, .int .i64 0, .int .i64 0, .bool false, .bool false, .bool false, .int .u32 0, .nils]), (3, .box [.int .u32 0, .int .u32 0, .int .i64 0, .bool false, .int .u32 0, .nils, .nils, .int .i64 0, .int .i64 0, .bool false, .bool false, .bool false, .int .u32 0, .nils]), (4, .row 7 34 (toA8.map TDesc.c)), (5, .row 7 34 (toB9.map TDesc.c)), (6, .box [.int .i64 0, .int .i64 0, .bool false, .bool false, .bool false, .int .u32 0, .nils])]) (next' := 7) rfl rfl rfl rfl rfl rfl rfl ?_
          refine GX.step0 (heap' := [(0, .box (TSession.c a3)), (1, .box (TSession.c b4)), (2, .box [.int .u32 0, .int .u32 0, .int .i64 0, .bool false, .int .u32 0, .nils, .nils, .int .i64 0, .int .i64 0, .bool false, .bool false, .bool false, .int .u32 0, .nils]), (3, .box [.int .u32 0, .int .u32 0, .int .i64 0, .bool false, .int .u32 0, .nils, .nils, .int .i64 0, .int .i64 0, .bool false, .bool false, .bool false, .int .u32 0, .nils]), (4, .row 7 34 (toA8.map TDesc.c)), (5, .row 7 34 (toB9.map TDesc.c)), (6, .box (TDesc.c x997))]) (next' := 7) rfl rfl rfl rfl rfl ?_
          refine GX.done ?_
          refine WK.seq ?_
          refine WK.conv (st' := ⟨[(2, .ro 1 (fates2.map c_i64)), (3, .ptr 0 0), (4, .ptr 1 0), (6, .ptr 2 0), (7, .ptr 3 0), (8, .own 4 7 0 toA8.length), (9, .ro 7 (toB9.map TDesc.c)), (10, .int .i64 (i10 : Int)), (11, .int .i64 x10), (21, .ptr 5 0), (69, .int .i64 x10), (70, .bool false), (73, .int .i64 x10), (74, .bool false), (77, .hole), (78, .hole), (79, .hole), (113, .int .i64 x10), (114, .bool true), (117, .hole), (118, .hole), (121, .ro 7 (toB9.map TDesc.c)), (122, .int .i64 (toB9.length : Int)), (123, .bool true)], [(0, .box (TSession.c a3)), (1, .box (TSession.c b4)), (2, .box [.int .u32 0, .int .u32 0, .int .i64 0, .bool false, .int .u32 0, .nils, .nils, .int .i64 0, .int .i64 0, .bool false, .bool false, .bool false, .int .u32 0, .nils]), (3, .box [.int .u32 0, .int .u32 0, .int .i64 0, .bool false, .int .u32 0, .nils, .nils, .int .i64 0, .int .i64 0, .bool false, .bool false, .bool false, .int .u32 0, .nils]), (4, .row 7 34 (toA8.map TDesc.c)), (5, .box (TDesc.c x997))], 6⟩) (Conv.keep [0, 1, 2, 3, 4, 6] [5] [2, 3, 4, 6, 7, 8, 9, 10, 11, 21, 69, 70, 73, 74, 77, 78, 79, 113, 114, 117, 118, 121, 122, 123] rfl rfl (viewE_cons rfl rfl (viewE_cons rfl rfl (viewE_cons rfl rfl (viewE_cons rfl rfl (viewE_cons rfl rfl (viewE_cons rfl rfl (viewE_cons rfl (view_rowT rfl rfl) (viewE_cons rfl rfl (viewE_cons rfl rfl (viewE_cons rfl rfl (viewE_cons rfl rfl (viewE_cons rfl rfl (viewE_cons rfl rfl (viewE_cons rfl rfl (viewE_cons rfl rfl (viewE_cons rfl rfl (viewE_cons rfl rfl (viewE_cons rfl rfl (viewE_cons rfl rfl (viewE_cons rfl rfl (viewE_cons rfl rfl (viewE_cons rfl (view_rowT rfl rfl) (viewE_cons rfl rfl (viewE_cons rfl rfl viewE_nil)))))))))))))))))))))))) rfl rfl) ?_ (by simp)
          refine WK.regx mixed ?_
          refine GX.step (v' := .own 6 7 0 (([] : List TDesc)).length) (heap' := [(0, .box (TSession.c a3)), (1, .box (TSession.c b4)), (2, .box [.int .u32 0, .int .u32 0, .int .i64 0, .bool false, .int .u32 0, .nils, .nils, .int .i64 0, .int .i64 0, .bool false, .bool false, .bool false, .int .u32 0, .nils]), (3, .box [.int .u32 0, .int .u32 0, .int .i64 0, .bool false, .int .u32 0, .nils, .nils, .int .i64 0, .int .i64 0, .bool false, .bool false, .bool false, .int .u32 0, .nils]), (4, .row 7 34 (toA8.map TDesc.c)), (5, .box (TDesc.c x997)), (6, .row 7 34 (([] : List TDesc).map TDesc.c))]) (next' := 7) rfl rfl rfl rfl rfl rfl rfl ?_
          refine GX.m rfl ?_
          rcases bool_two (decide ((1 : Int) ≤ (toB9.length : Int))) with hg100 | hg100
          ·simp only [hg100, bb] at hL_79
           try dsimp only at hL_79
           subst hL_79
           try dsimp only at hR
           cases hR
          simp only [hg100, bb] at hL_79
          have hg100_ := of_decide_eq_true hg100
          refine GX.sliceLo (c := TDesc.c) (M := (toB9.drop 1)) rfl rfl rfl (by omega) (by omega) rfl ?_
          rcases bool_two (decide ((toB9.drop 1).length < 1099511627776)) with hg101 | hg101
          ·simp only [hg101, bb] at hL_79
           try dsimp only at hL_79
           subst hL_79
           try dsimp only at hR
           cases hR
          simp only [hg101, bb] at hL_79
          have hg101_ := of_decide_eq_true hg101
          refine GX.appT (c := TDesc.c) (L := ([] : List TDesc)) (X := (toB9.drop 1)) (heap' := [(0, .box (TSession.c a3)), (1, .box (TSession.c b4)), (2, .box [.int .u32 0, .int .u32 0, .int .i64 0, .bool false, .int .u32 0, .nils, .nils, .int .i64 0, .int .i64 0, .bool false, .bool false, .bool false, .int .u32 0, .nils]), (3, .box [.int .u32 0, .int .u32 0, .int .i64 0, .bool false, .int .u32 0, .nils, .nils, .int .i64 0, .int .i64 0, .bool false, .bool false, .bool false, .int .u32 0, .nils]), (4, .row 7 34 (toA8.map TDesc.c)), (5, .box (TDesc.c x997)), (7, .row 7 34 ((toB9.drop 1).map TDesc.c))]) (next' := 8) rfl rfl rfl rfl elems_ro (by ((try simp only [List.length_append, List.length_cons, List.length_nil, List.length_map, decide_eq_true_eq, decide_eq_false_iff_not] at *) <;> omega)) (by ((try simp only [List.length_append, List.length_cons, List.length_nil, List.length_map, decide_eq_true_eq, decide_eq_false_iff_not] at *) <;> omega)) rfl rfl rfl rfl ?_
          refine GX.m rfl ?_
          refine GX.done ?_
          refine WK.seq ?_
          refine WK.sr mixed ?_
          refine GX.m rfl ?_
          refine GX.q (.bool (decide (x10 = 7))) ?_
          refine GX.done ?_
          have hn102 : (decide (x10 = 7)) = false := decide_eq_false (by have h_ := of_decide_eq_true hb88; omega)
          rw [hn102]
          refine WK.condF rfl ?_
          refine WK.skip ?_
          refine WK.sr mixed ?_
          refine GX.m rfl ?_
          refine GX.q (.bool (!decide (x10 = 3))) ?_
          refine GX.done ?_
          rw [hb88]
          refine WK.condF rfl ?_
          refine WK.skip ?_
          refine WK.nil (QF.normal (hK81 _ ?_))
          refine WK.regx mixed ?_
          refine GX.m rfl ?_
          refine GX.pure (v' := .int .i64 ((i10 + 1 : Nat) : Int)) rfl rfl rfl rfl (congrArg (PVal.int .i64) (wrap_up hlt79 hlen_79)) ?_
          refine GX.m rfl ?_
          refine GX.done ?_
          refine WK.nil (QF.normal ?_)
          exact hagain_79 _ (fates2.length - (i10 + 1)) ⟨[(2, .ro 1 (fates2.map c_i64)), (3, .ptr 0 0), (4, .ptr 1 0), (6, .ptr 2 0), (7, .ptr 3 0), (8, .own 4 7 0 toA8.length), (9, .own 5 7 0 (toB9.drop 1).length), (10, .int .i64 ((i10 + 1) : Int))], [(0, .box (TSession.c a3)), (1, .box (TSession.c b4)), (2, .box [.int .u32 0, .int .u32 0, .int .i64 0, .bool false, .int .u32 0, .nils, .nils, .int .i64 0, .int .i64 0, .bool false, .bool false, .bool false, .int .u32 0, .nils]), (3, .box [.int .u32 0, .int .u32 0, .int .i64 0, .bool false, .int .u32 0, .nils, .nils, .int .i64 0, .int .i64 0, .bool false, .bool false, .bool false, .int .u32 0, .nils]), (4, .row 7 34 (toA8.map TDesc.c)), (5, .row 7 34 ((toB9.drop 1).map TDesc.c))], 6⟩ (by omega) (Conv.keep [0, 1, 2, 3, 4, 7] [] [2, 3, 4, 6, 7, 8, 9, 10] rfl rfl (viewE_cons rfl rfl (viewE_cons rfl rfl (viewE_cons rfl rfl (viewE_cons rfl rfl (viewE_cons rfl rfl (viewE_cons rfl rfl (viewE_cons rfl rfl (viewE_cons rfl rfl viewE_nil)))))))) rfl rfl) ⟨i10 + 1, a3, b4, toA8, (toB9.drop 1), (by omega), rfl, hL_79, rfl⟩
       ·rw [hb87]; try simp only [hb87, bb] at hL_79
        iterate 2 refine GX.skip rfl rfl ?_
        refine GX.q (.bool true) ?_
        refine GX.m rfl ?_
        iterate 2 refine GX.skip rfl rfl ?_
        refine GX.q (.bool true) ?_
        iterate 2 refine GX.m rfl ?_
        refine GX.q (.int .i64 (toB9.length : Int)) ?_
        iterate 2 refine GX.q (.bool (decide (0 < (toB9.length : Int)))) ?_
        refine GX.done ?_
        rcases bool_two (decide (0 < (toB9.length : Int))) with hb103 | hb103
        ·rw [hb103]; try simp only [hb103, bb] at hL_79
         refine WK.condF rfl ?_
         refine WK.skip ?_
         refine WK.nil (QF.normal (hK81 _ ?_))
         refine WK.regx mixed ?_
         refine GX.m rfl ?_
         refine GX.pure (v' := .int .i64 ((i10 + 1 : Nat) : Int)) rfl rfl rfl rfl (congrArg (PVal.int .i64) (wrap_up hlt79 hlen_79)) ?_
         refine GX.m rfl ?_
         refine GX.done ?_
         refine WK.nil (QF.normal ?_)
         exact hagain_79 _ (fates2.length - (i10 + 1)) ⟨[(2, .ro 1 (fates2.map c_i64)), (3, .ptr 0 0), (4, .ptr 1 0), (6, .ptr 2 0), (7, .ptr 3 0), (8, .own 4 7 0 toA8.length), (9, .own 5 7 0 toB9.length), (10, .int .i64 ((i10 + 1) : Int))], [(0, .box (TSession.c a3)), (1, .box (TSession.c b4)), (2, .box [.int .u32 0, .int .u32 0, .int .i64 0, .bool false, .int .u32 0, .nils, .nils, .int .i64 0, .int .i64 0, .bool false, .bool false, .bool false, .int .u32 0, .nils]), (3, .box [.int .u32 0, .int .u32 0, .int .i64 0, .bool false, .int .u32 0, .nils, .nils, .int .i64 0, .int .i64 0, .bool false, .bool false, .bool false, .int .u32 0, .nils]), (4, .row 7 34 (toA8.map TDesc.c)), (5, .row 7 34 (toB9.map TDesc.c))], 6⟩ (by omega) (Conv.keep [0, 1, 2, 3, 4, 5] [] [2, 3, 4, 6, 7, 8, 9, 10] rfl rfl (viewE_cons rfl rfl (viewE_cons rfl rfl (viewE_cons rfl rfl (viewE_cons rfl rfl (viewE_cons rfl rfl (viewE_cons rfl rfl (viewE_cons rfl rfl (viewE_cons rfl rfl viewE_nil)))))))) rfl rfl) ⟨i10 + 1, a3, b4, toA8, toB9, (by omega), rfl, hL_79, rfl⟩
        ·rw [hb103]; try simp only [hb103, bb] at hL_79
         refine WK.condT rfl ?_
         refine WK.sr mixed ?_
         refine GX.m rfl ?_
         generalize hx1003 : getI toB9 0 = x1003 at hL_79
         rcases x1003 with _ | x1003
         ·try dsimp only at hL_79
          subst hL_79
          try dsimp only at hR
          cases hR
         try dsimp only at hL_79
         obtain ⟨hx10030, hx1003j, hx1003l, hx1003⟩ := getI_some hx1003
         refine GX.pure (v' := .eptr 5 7 0 0) rfl rfl rfl (core_idxoT (c := TDesc.c) (L := toB9) (j := 0) rfl hx1003j hx1003l (by exact Nat.le_refl _)) rfl ?_
         refine GX.pure (v' := .agg (TDesc.c x1003)) rfl rfl rfl (core_loaT (c := TDesc.c) (L := toB9) (x := x1003) rfl hx1003 rfl) rfl ?_
         refine GX.step (v' := .ptr 6 0) (heap' := [(0, .box (TSession.c a3)), (1, .box (TSession.c b4)), (2, .box [.int .u32 0, .int .u32 0, .int .i64 0, .bool false, .int .u32 0, .nils, .nils, .int .i64 0, .int .i64 0, .bool false, .bool false, .bool false, .int .u32 0, .nils]), (3, .box [.int .u32 0, .int .u32 0, .int .i64 0, .bool false, .int .u32 0, .nils, .nils, .int .i64 0, .int .i64 0, .bool false, .bool false, .bool false, .int .u32 0, .nils]), (4, .row 7 34 (toA8.map TDesc.c)), (5, .row 7 34 (toB9.map TDesc.c)), (6, .box [.int .i64 0, .int .i64 0, .bool false, .bool false, .bool false, .int .u32 0, .nils])]) (next' := 7) rfl rfl rfl rfl rfl rfl rfl ?_
         refine GX.step0 (heap' := [(0, .box (TSession.c a3)), (1, .box (TSession.c b4)), (2, .box [.int .u32 0, .int .u32 0, .int .i64 0, .bool false, .int .u32 0, .nils, .nils, .int .i64 0, .int .i64 0, .bool false, .bool false, .bool false, .int .u32 0, .nils]), (3, .box [.int .u32 0, .int .u32 0, .int .i64 0, .bool false, .int .u32 0, .nils, .nils, .int .i64 0, .int .i64 0, .bool false, .bool false, .bool false, .int .u32 0, .nils]), (4, .row 7 34 (toA8.map TDesc.c)), (5, .row 7 34 (toB9.map TDesc.c)), (6, .box (TDesc.c x1003))]) (next' := 7) rfl rfl rfl rfl rfl ?_
         refine GX.done ?_
         refine WK.seq ?_
         refine WK.conv (st' := ⟨[(2, .ro 1 (fates2.map c_i64)), (3, .ptr 0 0), (4, .ptr 1 0), (6, .ptr 2 0), (7, .ptr 3 0), (8, .own 4 7 0 toA8.length), (9, .ro 7 (toB9.map TDesc.c)), (10, .int .i64 (i10 : Int)), (11, .int .i64 x10), (21, .ptr 5 0), (69, .int .i64 x10), (70, .bool false), (73, .int .i64 x10), (74, .bool false), (77, .hole), (78, .hole), (79, .hole), (113, .hole), (114, .hole), (117, .hole), (118, .hole), (121, .ro 7 (toB9.map TDesc.c)), (122, .int .i64 (toB9.length : Int)), (123, .bool true)], [(0, .box (TSession.c a3)), (1, .box (TSession.c b4)), (2, .box [.int .u32 0, .int .u32 0, .int .i64 0, .bool false, .int .u32 0, .nils, .nils, .int .i64 0, .int .i64 0, .bool false, .bool false, .bool false, .int .u32 0, .nils]), (3, .box [.int .u32 0, .int .u32 0, .int .i64 0, .bool false, .int .u32 0, .nils, .nils, .int .i64 0, .int .i64 0, .bool false, .bool false, .bool false, .int .u32 0, .nils]), (4, .row 7 34 (toA8.map TDesc.c)), (5, .box (TDesc.c x1003))], 6⟩) (Conv.keep [0, 1, 2, 3, 4, 6] [5] [2, 3, 4, 6, 7, 8, 9, 10, 11, 21, 69, 70, 73, 74, 77, 78, 79, 113, 114, 117, 118, 121, 122, 123] rfl rfl (viewE_cons rfl rfl (viewE_cons rfl rfl (viewE_cons rfl rfl (viewE_cons rfl rfl (viewE_cons rfl rfl (viewE_cons rfl rfl (viewE_cons rfl (view_rowT rfl rfl) (viewE_cons rfl rfl (viewE_cons rfl rfl (viewE_cons rfl rfl (viewE_cons rfl rfl (viewE_cons rfl rfl (viewE_cons rfl rfl (viewE_cons rfl rfl (viewE_cons rfl rfl (viewE_cons rfl rfl (viewE_cons rfl rfl (viewE_cons rfl rfl (viewE_cons rfl rfl (viewE_cons rfl rfl (viewE_cons rfl rfl (viewE_cons rfl (view_rowT rfl rfl) (viewE_cons rfl rfl (viewE_cons rfl rfl viewE_nil)))))))))))))))))))))))) rfl rfl) ?_ (by simp)
         refine WK.regx mixed ?_
         refine GX.step (v' := .own 6 7 0 (([] : List TDesc)).length) (heap' := [(0, .box (TSession.c a3)), (1, .box (TSession.c b4)), (2, .box [.int .u32 0, .int .u32 0, .int .i64 0, .bool false, .int .u32 0, .nils, .nils, .int .i64 0, .int .i64 0, .bool false, .bool false, .bool false, .int .u32 0, .nils]), (3, .box [.int .u32 0, .int .u32 0, .int .i64 0, .bool false, .int .u32 0, .nils, .nils, .int .i64 0, .int .i64 0, .bool false, .bool false, .bool false, .int .u32 0, .nils]), (4, .row 7 34 (toA8.map TDesc.c)), (5, .box (TDesc.c x1003)), (6, .row 7 34 (([] : List TDesc).map TDesc.c))]) (next' := 7) rfl rfl rfl rfl rfl rfl rfl ?_
         refine GX.m rfl ?_
         rcases bool_two (decide ((1 : Int) ≤ (toB9.length : Int))) with hg106 | hg106
         ·simp only [hg106, bb] at hL_79
          try dsimp only at hL_79
          subst hL_79
          try dsimp only at hR
          cases hR
         simp only [hg106, bb] at hL_79
         have hg106_ := of_decide_eq_true hg106
         refine GX.sliceLo (c := TDesc.c) (M := (toB9.drop 1)) rfl rfl rfl (by omega) (by omega) rfl ?_
         rcases bool_two (decide ((toB9.drop 1).length < 1099511627776)) with hg107 | hg107
         ·simp only [hg107, bb] at hL_79
          try dsimp only at hL_79
          subst hL_79
          try dsimp only at hR
          cases hR
         simp only [hg107, bb] at hL_79
         have hg107_ := of_decide_eq_true hg107
         refine GX.appT (c := TDesc.c) (L := ([] : List TDesc)) (X := (toB9.drop 1)) (heap' := [(0, .box (TSession.c a3)), (1, .box (TSession.c b4)), (2, .box [.int .u32 0, .int .u32 0, .int .i64 0, .bool false, .int .u32 0, .nils, .nils, .int .i64 0, .int .i64 0, .bool false, .bool false, .bool false, .int .u32 0, .nils]), (3, .box [.int .u32 0, .int .u32 0, .int .i64 0, .bool false, .int .u32 0, .nils, .nils, .int .i64 0, .int .i64 0, .bool false, .bool false, .bool false, .int .u32 0, .nils]), (4, .row 7 34 (toA8.map TDesc.c)), (5, .box (TDesc.c x1003)), (7, .row 7 34 ((toB9.drop 1).map TDesc.c))]) (next' := 8) rfl rfl rfl rfl elems_ro (by ((try simp only [List.length_append, List.length_cons, List.length_nil, List.length_map, decide_eq_true_eq, decide_eq_false_iff_not] at *) <;> omega)) (by ((try simp only [List.length_append, List.length_cons, List.length_nil, List.length_map, decide_eq_true_eq, decide_eq_false_iff_not] at *) <;> omega)) rfl rfl rfl rfl ?_
         refine GX.m rfl ?_
         refine GX.done ?_
         refine WK.seq ?_
         refine WK.sr mixed ?_
         refine GX.m rfl ?_
         refine GX.q (.bool (decide (x10 = 7))) ?_
         refine GX.done ?_
         have hn108 : (decide (x10 = 7)) = false := decide_eq_false (by have h_ := of_decide_eq_true hb87; omega)
         rw [hn108]
         refine WK.condF rfl ?_
         refine WK.skip ?_
         refine WK.sr mixed ?_
         refine GX.m rfl ?_
         refine GX.q (.bool (!decide (x10 = 3))) ?_
         refine GX.done ?_
         have hn109 : (decide (x10 = 3)) = false := decide_eq_false (by have h_ := of_decide_eq_true hb87; omega)
         rw [hn109]
         refine WK.condT rfl ?_
         refine WK.sr mixed ?_
         refine GX.q (.agg (TSession.c b4)) ?_
         refine GX.q (.agg (TDesc.c x1003)) ?_
         generalize hc143 : F16_crossroadsref17_Hear b4 x1003 = c143 at hL_79
         rcases c143 with _ | c143
         ·try dsimp only at hL_79
          subst hL_79
          try dsimp only at hR
          cases hR
         try dsimp only at hL_79
         obtain ⟨c143a, c143b, c143c, c143d⟩ := c143; try dsimp only at hL_79
         refine GX.callp (r := .tup [.agg [.int .u32 c143a.Own, .int .u32 c143a.Peer, .int .i64 c143a.Phase, .bool c143a.Leads, .int .u32 c143a.Seq, .ro 8 (c143a.Left.map THeader.c), .ro 8 (c143a.Got.map THeader.c), .int .i64 c143a.Last.MTU, .int .i64 c143a.Last.Options, .bool c143a.Last.Init, .bool c143a.Last.More, .bool c143a.Last.Master, .int .u32 c143a.Last.Seq, .ro 8 (c143a.Last.Heads.map THeader.c)], .agg [.int .i64 c143b.MTU, .int .i64 c143b.Options, .bool c143b.Init, .bool c143b.More, .bool c143b.Master, .int .u32 c143b.Seq, .ro 8 (c143b.Heads.map THeader.c)], .bool c143c, .int .i64 c143d]) rfl rfl rfl (f16_ok b4 x1003 _ hc143) rfl rfl ?_
         refine GX.m rfl ?_
         refine GX.q (.agg [.int .u32 c143a.Own, .int .u32 c143a.Peer, .int .i64 c143a.Phase, .bool c143a.Leads, .int .u32 c143a.Seq, .ro 8 (c143a.Left.map THeader.c), .ro 8 (c143a.Got.map THeader.c), .int .i64 c143a.Last.MTU, .int .i64 c143a.Last.Options, .bool c143a.Last.Init, .bool c143a.Last.More, .bool c143a.Last.Master, .int .u32 c143a.Last.Seq, .ro 8 (c143a.Last.Heads.map THeader.c)]) ?_
         refine GX.q (.agg [.int .i64 c143b.MTU, .int .i64 c143b.Options, .bool c143b.Init, .bool c143b.More, .bool c143b.Master, .int .u32 c143b.Seq, .ro 8 (c143b.Heads.map THeader.c)]) ?_
         refine GX.q (.bool c143c) ?_
         refine GX.q (.int .i64 c143d) ?_
         refine GX.step (v' := .ptr 8 0) (heap' := [(0, .box (TSession.c a3)), (1, .box (TSession.c b4)), (2, .box [.int .u32 0, .int .u32 0, .int .i64 0, .bool false, .int .u32 0, .nils, .nils, .int .i64 0, .int .i64 0, .bool false, .bool false, .bool false, .int .u32 0, .nils]), (3, .box [.int .u32 0, .int .u32 0, .int .i64 0, .bool false, .int .u32 0, .nils, .nils, .int .i64 0, .int .i64 0, .bool false, .bool false, .bool false, .int .u32 0, .nils]), (4, .row 7 34 (toA8.map TDesc.c)), (5, .box (TDesc.c x1003)), (7, .row 7 34 ((toB9.drop 1).map TDesc.c)), (8, .box [.int .u32 0, .int .u32 0, .int .i64 0, .bool false, .int .u32 0, .nils, .nils, .int .i64 0, .int .i64 0, .bool false, .bool false, .bool false, .int .u32 0, .nils])]) (next' := 9) rfl rfl rfl rfl rfl rfl rfl ?_
         refine GX.step (v' := .ptr 9 0) (heap' := [(0, .box (TSession.c a3)), (1, .box (TSession.c b4)), (2, .box [.int .u32 0, .int .u32 0, .int .i64 0, .bool false, .int .u32 0, .nils, .nils, .int .i64 0, .int .i64 0, .bool false, .bool false, .bool false, .int .u32 0, .nils]), (3, .box [.int .u32 0, .int .u32 0, .int .i64 0, .bool false, .int .u32 0, .nils, .nils, .int .i64 0, .int .i64 0, .bool false, .bool false, .bool false, .int .u32 0, .nils]), (4, .row 7 34 (toA8.map TDesc.c)), (5, .box (TDesc.c x1003)), (7, .row 7 34 ((toB9.drop 1).map TDesc.c)), (8, .box [.int .u32 0, .int .u32 0, .int .i64 0, .bool false, .int .u32 0, .nils, .nils, .int .i64 0, .int .i64 0, .bool false, .bool false, .bool false, .int .u32 0, .nils]), (9, .box [.int .i64 0, .int .i64 0, .bool false, .bool false, .bool false, .int .u32 0, .nils])]) (next' := 10) rfl rfl rfl rfl rfl rfl rfl ?_
         refine GX.step0 (heap' := [(0, .box (TSession.c a3)), (1, .box (TSession.c b4)), (2, .box [.int .u32 0, .int .u32 0, .int .i64 0, .bool false, .int .u32 0, .nils, .nils, .int .i64 0, .int .i64 0, .bool false, .bool false, .bool false, .int .u32 0, .nils]), (3, .box [.int .u32 0, .int .u32 0, .int .i64 0, .bool false, .int .u32 0, .nils, .nils, .int .i64 0, .int .i64 0, .bool false, .bool false, .bool false, .int .u32 0, .nils]), (4, .row 7 34 (toA8.map TDesc.c)), (5, .box (TDesc.c x1003)), (7, .row 7 34 ((toB9.drop 1).map TDesc.c)), (8, .box (TSession.c c143a)), (9, .box [.int .i64 0, .int .i64 0, .bool false, .bool false, .bool false, .int .u32 0, .nils])]) (next' := 10) rfl rfl rfl rfl rfl ?_
         refine GX.step0 (heap' := [(0, .box (TSession.c a3)), (1, .box (TSession.c b4)), (2, .box [.int .u32 0, .int .u32 0, .int .i64 0, .bool false, .int .u32 0, .nils, .nils, .int .i64 0, .int .i64 0, .bool false, .bool false, .bool false, .int .u32 0, .nils]), (3, .box [.int .u32 0, .int .u32 0, .int .i64 0, .bool false, .int .u32 0, .nils, .nils, .int .i64 0, .int .i64 0, .bool false, .bool false, .bool false, .int .u32 0, .nils]), (4, .row 7 34 (toA8.map TDesc.c)), (5, .box (TDesc.c x1003)), (7, .row 7 34 ((toB9.drop 1).map TDesc.c)), (8, .box (TSession.c c143a)), (9, .box (TDesc.c c143b))]) (next' := 10) rfl rfl rfl rfl rfl ?_
         iterate 2 refine GX.m rfl ?_
         refine GX.done ?_
         refine WK.sr mixed ?_
         refine GX.q (.agg (TSession.c c143a)) ?_
         refine GX.step0 (heap' := [(0, .box (TSession.c a3)), (1, .box (TSession.c c143a)), (2, .box [.int .u32 0, .int .u32 0, .int .i64 0, .bool false, .int .u32 0, .nils, .nils, .int .i64 0, .int .i64 0, .bool false, .bool false, .bool false, .int .u32 0, .nils]), (3, .box [.int .u32 0, .int .u32 0, .int .i64 0, .bool false, .int .u32 0, .nils, .nils, .int .i64 0, .int .i64 0, .bool false, .bool false, .bool false, .int .u32 0, .nils]), (4, .row 7 34 (toA8.map TDesc.c)), (5, .box (TDesc.c x1003)), (7, .row 7 34 ((toB9.drop 1).map TDesc.c)), (8, .box (TSession.c c143a)), (9, .box (TDesc.c c143b))]) (next' := 10) rfl rfl rfl rfl rfl ?_
         refine GX.done ?_
         refine WK.sr mixed ?_
         refine GX.m rfl ?_
         refine GX.done ?_
         rcases bool_two (c143c) with hb110 | hb110
         ·rw [hb110]; try simp only [hb110, bb] at hL_79
          refine WK.condF rfl ?_
          refine WK.skip ?_
          refine WK.nil (QF.normal (hK81 _ ?_))
          refine WK.regx mixed ?_
          refine GX.m rfl ?_
          refine GX.pure (v' := .int .i64 ((i10 + 1 : Nat) : Int)) rfl rfl rfl rfl (congrArg (PVal.int .i64) (wrap_up hlt79 hlen_79)) ?_
          refine GX.m rfl ?_
          refine GX.done ?_
          refine WK.nil (QF.normal ?_)
          exact hagain_79 _ (fates2.length - (i10 + 1)) ⟨[(2, .ro 1 (fates2.map c_i64)), (3, .ptr 0 0), (4, .ptr 1 0), (6, .ptr 2 0), (7, .ptr 3 0), (8, .own 4 7 0 toA8.length), (9, .own 5 7 0 (toB9.drop 1).length), (10, .int .i64 ((i10 + 1) : Int))], [(0, .box (TSession.c a3)), (1, .box (TSession.c c143a)), (2, .box [.int .u32 0, .int .u32 0, .int .i64 0, .bool false, .int .u32 0, .nils, .nils, .int .i64 0, .int .i64 0, .bool false, .bool false, .bool false, .int .u32 0, .nils]), (3, .box [.int .u32 0, .int .u32 0, .int .i64 0, .bool false, .int .u32 0, .nils, .nils, .int .i64 0, .int .i64 0, .bool false, .bool false, .bool false, .int .u32 0, .nils]), (4, .row 7 34 (toA8.map TDesc.c)), (5, .row 7 34 ((toB9.drop 1).map TDesc.c))], 6⟩ (by omega) (Conv.keep [0, 1, 2, 3, 4, 7] [] [2, 3, 4, 6, 7, 8, 9, 10] rfl rfl (viewE_cons rfl rfl (viewE_cons rfl rfl (viewE_cons rfl rfl (viewE_cons rfl rfl (viewE_cons rfl rfl (viewE_cons rfl rfl (viewE_cons rfl rfl (viewE_cons rfl rfl viewE_nil)))))))) rfl rfl) ⟨i10 + 1, a3, c143a, toA8, (toB9.drop 1), (by omega), rfl, hL_79, rfl⟩
         ·rw [hb110]; try simp only [hb110, bb] at hL_79
          refine WK.condT rfl ?_
          refine WK.regx mixed ?_
          refine GX.m rfl ?_
          refine GX.q (.agg (TDesc.c c143b)) ?_
          refine GX.step (v' := .own 10 7 0 (([c143b] : List TDesc)).length) (heap' := [(0, .box (TSession.c a3)), (1, .box (TSession.c c143a)), (2, .box [.int .u32 0, .int .u32 0, .int .i64 0, .bool false, .int .u32 0, .nils, .nils, .int .i64 0, .int .i64 0, .bool false, .bool false, .bool false, .int .u32 0, .nils]), (3, .box [.int .u32 0, .int .u32 0, .int .i64 0, .bool false, .int .u32 0, .nils, .nils, .int .i64 0, .int .i64 0, .bool false, .bool false, .bool false, .int .u32 0, .nils]), (4, .row 7 34 (toA8.map TDesc.c)), (5, .box (TDesc.c x1003)), (7, .row 7 34 ((toB9.drop 1).map TDesc.c)), (8, .box (TSession.c c143a)), (9, .box (TDesc.c c143b)), (10, .row 7 34 (([c143b] : List TDesc).map TDesc.c))]) (next' := 11) rfl rfl rfl rfl rfl rfl rfl ?_
          rcases bool_two (decide (toA8.length < 1099511627776)) with hg111 | hg111
          ·simp only [hg111, bb] at hL_79
           try dsimp only at hL_79
           subst hL_79
           try dsimp only at hR
           cases hR
          simp only [hg111, bb] at hL_79
          have hg111_ := of_decide_eq_true hg111
          refine GX.appT (c := TDesc.c) (L := toA8) (X := ([c143b] : List TDesc)) (heap' := [(0, .box (TSession.c a3)), (1, .box (TSession.c c143a)), (2, .box [.int .u32 0, .int .u32 0, .int .i64 0, .bool false, .int .u32 0, .nils, .nils, .int .i64 0, .int .i64 0, .bool false, .bool false, .bool false, .int .u32 0, .nils]), (3, .box [.int .u32 0, .int .u32 0, .int .i64 0, .bool false, .int .u32 0, .nils, .nils, .int .i64 0, .int .i64 0, .bool false, .bool false, .bool false, .int .u32 0, .nils]), (5, .box (TDesc.c x1003)), (7, .row 7 34 ((toB9.drop 1).map TDesc.c)), (8, .box (TSession.c c143a)), (9, .box (TDesc.c c143b)), (10, .row 7 34 (([c143b] : List TDesc).map TDesc.c)), (11, .row 7 34 ((toA8 ++ ([c143b] : List TDesc)).map TDesc.c))]) (next' := 12) rfl rfl rfl rfl (elems_own rfl) (by ((try simp only [List.length_append, List.length_cons, List.length_nil, List.length_map, decide_eq_true_eq, decide_eq_false_iff_not] at *) <;> omega)) (by ((try simp only [List.length_append, List.length_cons, List.length_nil, List.length_map, decide_eq_true_eq, decide_eq_false_iff_not] at *) <;> omega)) rfl rfl rfl rfl ?_
          refine GX.m rfl ?_
          refine GX.done ?_
          refine WK.nil (QF.normal (hK81 _ ?_))
          refine WK.regx mixed ?_
          refine GX.m rfl ?_
          refine GX.pure (v' := .int .i64 ((i10 + 1 : Nat) : Int)) rfl rfl rfl rfl (congrArg (PVal.int .i64) (wrap_up hlt79 hlen_79)) ?_
          refine GX.m rfl ?_
          refine GX.done ?_
          refine WK.nil (QF.normal ?_)
          exact hagain_79 _ (fates2.length - (i10 + 1)) ⟨[(2, .ro 1 (fates2.map c_i64)), (3, .ptr 0 0), (4, .ptr 1 0), (6, .ptr 2 0), (7, .ptr 3 0), (8, .own 4 7 0 (toA8 ++ ([c143b] : List TDesc)).length), (9, .own 5 7 0 (toB9.drop 1).length), (10, .int .i64 ((i10 + 1) : Int))], [(0, .box (TSession.c a3)), (1, .box (TSession.c c143a)), (2, .box [.int .u32 0, .int .u32 0, .int .i64 0, .bool false, .int .u32 0, .nils, .nils, .int .i64 0, .int .i64 0, .bool false, .bool false, .bool false, .int .u32 0, .nils]), (3, .box [.int .u32 0, .int .u32 0, .int .i64 0, .bool false, .int .u32 0, .nils, .nils, .int .i64 0, .int .i64 0, .bool false, .bool false, .bool false, .int .u32 0, .nils]), (4, .row 7 34 ((toA8 ++ ([c143b] : List TDesc)).map TDesc.c)), (5, .row 7 34 ((toB9.drop 1).map TDesc.c))], 6⟩ (by omega) (Conv.keep [0, 1, 2, 3, 11, 7] [] [2, 3, 4, 6, 7, 8, 9, 10] rfl rfl (viewE_cons rfl rfl (viewE_cons rfl rfl (viewE_cons rfl rfl (viewE_cons rfl rfl (viewE_cons rfl rfl (viewE_cons rfl rfl (viewE_cons rfl rfl (viewE_cons rfl rfl viewE_nil)))))))) rfl rfl) ⟨i10 + 1, a3, c143a, (toA8 ++ ([c143b] : List TDesc)), (toB9.drop 1), (by omega), rfl, hL_79, rfl⟩
      ·rw [hb86]; try simp only [hb86, bb] at hL_79
       refine GX.m rfl ?_
       refine GX.q (.int .i64 (toA8.length : Int)) ?_
       iterate 2 refine GX.q (.bool (decide (0 < (toA8.length : Int)))) ?_
       refine GX.done ?_
       rcases bool_two (decide (0 < (toA8.length : Int))) with hb112 | hb112
       ·rw [hb112]; try simp only [hb112, bb] at hL_79
        refine WK.condF rfl ?_
        refine WK.skip ?_
        refine WK.sr mixed ?_
        refine GX.m rfl ?_
        refine GX.q (.bool (decide (x10 = 1))) ?_
        refine GX.m rfl ?_
        have hn113 : (decide (x10 = 1)) = false := decide_eq_false (by have h_ := of_decide_eq_true hb86; omega)
        rw [hn113]
        refine GX.m rfl ?_
        iterate 2 refine GX.q (.bool (decide (x10 = 3))) ?_
        refine GX.m rfl ?_
        have hn114 : (decide (x10 = 3)) = false := decide_eq_false (by have h_ := of_decide_eq_true hb86; omega)
        rw [hn114]
        refine GX.m rfl ?_
        iterate 2 refine GX.q (.bool (decide (x10 = 7))) ?_
        refine GX.m rfl ?_
        have hn115 : (decide (x10 = 7)) = false := decide_eq_false (by have h_ := of_decide_eq_true hb86; omega)
        rw [hn115]
        iterate 3 refine GX.skip rfl rfl ?_
        refine GX.q (.bool false) ?_
        refine GX.done ?_
        refine WK.condF rfl ?_
        refine WK.skip ?_
        refine WK.nil (QF.normal (hK81 _ ?_))
        refine WK.regx mixed ?_
        refine GX.m rfl ?_
        refine GX.pure (v' := .int .i64 ((i10 + 1 : Nat) : Int)) rfl rfl rfl rfl (congrArg (PVal.int .i64) (wrap_up hlt79 hlen_79)) ?_
        refine GX.m rfl ?_
        refine GX.done ?_
        refine WK.nil (QF.normal ?_)
        exact hagain_79 _ (fates2.length - (i10 + 1)) ⟨[(2, .ro 1 (fates2.map c_i64)), (3, .ptr 0 0), (4, .ptr 1 0), (6, .ptr 2 0), (7, .ptr 3 0), (8, .own 4 7 0 toA8.length), (9, .own 5 7 0 toB9.length), (10, .int .i64 ((i10 + 1) : Int))], [(0, .box (TSession.c a3)), (1, .box (TSession.c b4)), (2, .box [.int .u32 0, .int .u32 0, .int .i64 0, .bool false, .int .u32 0, .nils, .nils, .int .i64 0, .int .i64 0, .bool false, .bool false, .bool false, .int .u32 0, .nils]), (3, .box [.int .u32 0, .int .u32 0, .int .i64 0, .bool false, .int .u32 0, .nils, .nils, .int .i64 0, .int .i64 0, .bool false, .bool false, .bool false, .int .u32 0, .nils]), (4, .row 7 34 (toA8.map TDesc.c)), (5, .row 7 34 (toB9.map TDesc.c))], 6⟩ (by omega) (Conv.keep [0, 1, 2, 3, 4, 5] [] [2, 3, 4, 6, 7, 8, 9, 10] rfl rfl (viewE_cons rfl rfl (viewE_cons rfl rfl (viewE_cons rfl rfl (viewE_cons rfl rfl (viewE_cons rfl rfl (viewE_cons rfl rfl (viewE_cons rfl rfl (viewE_cons rfl rfl viewE_nil)))))))) rfl rfl) ⟨i10 + 1, a3, b4, toA8, toB9, (by omega), rfl, hL_79, rfl⟩
       ·rw [hb112]; try simp only [hb112, bb] at hL_79
        refine WK.condT rfl ?_
        refine WK.sr mixed ?_
        refine GX.m rfl ?_
        generalize hx1015 : getI toA8 0 = x1015 at hL_79
        rcases x1015 with _ | x1015
        ·try dsimp only at hL_79
         subst hL_79
         try dsimp only at hR
         cases hR
        try dsimp only at hL_79
        obtain ⟨hx10150, hx1015j, hx1015l, hx1015⟩ := getI_some hx1015
        refine GX.pure (v' := .eptr 4 7 0 0) rfl rfl rfl (core_idxoT (c := TDesc.c) (L := toA8) (j := 0) rfl hx1015j hx1015l (by exact Nat.le_refl _)) rfl ?_
        refine GX.pure (v' := .agg (TDesc.c x1015)) rfl rfl rfl (core_loaT (c := TDesc.c) (L := toA8) (x := x1015) rfl hx1015 rfl) rfl ?_
        refine GX.step (v' := .ptr 6 0) (heap' := [(0, .box (TSession.c a3)), (1, .box (TSession.c b4)), (2, .box [.int .u32 0, .int .u32 0, .int .i64 0, .bool false, .int .u32 0, .nils, .nils, .int .i64 0, .int .i64 0, .bool false, .bool false, .bool false, .int .u32 0, .nils]), (3, .box [.int .u32 0, .int .u32 0, .int .i64 0, .bool false, .int .u32 0, .nils, .nils, .int .i64 0, .int .i64 0, .bool false, .bool false, .bool false, .int .u32 0, .nils]), (4, .row 7 34 (toA8.map TDesc.c)), (5, .row 7 34 (toB9.map TDesc.c)), (6, .box [.int .i64 0, .int .i64 0, .bool false, .bool false, .bool false, .int .u32 0, .nils])]) (next' := 7) rfl rfl rfl rfl rfl rfl rfl ?_
        refine GX.step0 (heap' := [(0, .box (TSession.c a3)), (1, .box (TSession.c b4)), (2, .box [.int .u32 0, .int .u32 0, .int .i64 0, .bool false, .int .u32 0, .nils, .nils, .int .i64 0, .int .i64 0, .bool false, .bool false, .bool false, .int .u32 0, .nils]), (3, .box [.int .u32 0, .int .u32 0, .int .i64 0, .bool false, .int .u32 0, .nils, .nils, .int .i64 0, .int .i64 0, .bool false, .bool false, .bool false, .int .u32 0, .nils]), (4, .row 7 34 (toA8.map TDesc.c)), (5, .row 7 34 (toB9.map TDesc.c)), (6, .box (TDesc.c x1015))]) (next' := 7) rfl rfl rfl rfl rfl ?_
        refine GX.done ?_
        refine WK.seq ?_
        refine WK.conv (st' := ⟨[(2, .ro 1 (fates2.map c_i64)), (3, .ptr 0 0), (4, .ptr 1 0), (6, .ptr 2 0), (7, .ptr 3 0), (8, .ro 7 (toA8.map TDesc.c)), (9, .own 4 7 0 toB9.length), (10, .int .i64 (i10 : Int)), (11, .int .i64 x10), (16, .ptr 5 0), (69, .int .i64 x10), (70, .bool false), (73, .int .i64 x10), (74, .bool true), (77, .ro 7 (toA8.map TDesc.c)), (78, .int .i64 (toA8.length : Int)), (79, .bool true)], [(0, .box (TSession.c a3)), (1, .box (TSession.c b4)), (2, .box [.int .u32 0, .int .u32 0, .int .i64 0, .bool false, .int .u32 0, .nils, .nils, .int .i64 0, .int .i64 0, .bool false, .bool false, .bool false, .int .u32 0, .nils]), (3, .box [.int .u32 0, .int .u32 0, .int .i64 0, .bool false, .int .u32 0, .nils, .nils, .int .i64 0, .int .i64 0, .bool false, .bool false, .bool false, .int .u32 0, .nils]), (4, .row 7 34 (toB9.map TDesc.c)), (5, .box (TDesc.c x1015))], 6⟩) (Conv.keep [0, 1, 2, 3, 5, 6] [4] [2, 3, 4, 6, 7, 8, 9, 10, 11, 16, 69, 70, 73, 74, 77, 78, 79] rfl rfl (viewE_cons rfl rfl (viewE_cons rfl rfl (viewE_cons rfl rfl (viewE_cons rfl rfl (viewE_cons rfl rfl (viewE_cons rfl (view_rowT rfl rfl) (viewE_cons rfl rfl (viewE_cons rfl rfl (viewE_cons rfl rfl (viewE_cons rfl rfl (viewE_cons rfl rfl (viewE_cons rfl rfl (viewE_cons rfl rfl (viewE_cons rfl rfl (viewE_cons rfl (view_rowT rfl rfl) (viewE_cons rfl rfl (viewE_cons rfl rfl viewE_nil))))))))))))))))) rfl rfl) ?_ (by simp)
        refine WK.regx mixed ?_
        refine GX.step (v' := .own 6 7 0 (([] : List TDesc)).length) (heap' := [(0, .box (TSession.c a3)), (1, .box (TSession.c b4)), (2, .box [.int .u32 0, .int .u32 0, .int .i64 0, .bool false, .int .u32 0, .nils, .nils, .int .i64 0, .int .i64 0, .bool false, .bool false, .bool false, .int .u32 0, .nils]), (3, .box [.int .u32 0, .int .u32 0, .int .i64 0, .bool false, .int .u32 0, .nils, .nils, .int .i64 0, .int .i64 0, .bool false, .bool false, .bool false, .int .u32 0, .nils]), (4, .row 7 34 (toB9.map TDesc.c)), (5, .box (TDesc.c x1015)), (6, .row 7 34 (([] : List TDesc).map TDesc.c))]) (next' := 7) rfl rfl rfl rfl rfl rfl rfl ?_
        refine GX.m rfl ?_
        rcases bool_two (decide ((1 : Int) ≤ (toA8.length : Int))) with hg118 | hg118
        ·simp only [hg118, bb] at hL_79
         try dsimp only at hL_79
         subst hL_79
         try dsimp only at hR
         cases hR
        simp only [hg118, bb] at hL_79
        have hg118_ := of_decide_eq_true hg118
        refine GX.sliceLo (c := TDesc.c) (M := (toA8.drop 1)) rfl rfl rfl (by omega) (by omega) rfl ?_
        rcases bool_two (decide ((toA8.drop 1).length < 1099511627776)) with hg119 | hg119
        ·simp only [hg119, bb] at hL_79
         try dsimp only at hL_79
         subst hL_79
         try dsimp only at hR
         cases hR
        simp only [hg119, bb] at hL_79
        have hg119_ := of_decide_eq_true hg119
        refine GX.appT (c := TDesc.c) (L := ([] : List TDesc)) (X := (toA8.drop 1)) (heap' := [(0, .box (TSession.c a3)), (1, .box (TSession.c b4)), (2, .box [.int .u32 0, .int .u32 0, .int .i64 0, .bool false, .int .u32 0, .nils, .nils, .int .i64 0, .int .i64 0, .bool false, .bool false, .bool false, .int .u32 0, .nils]), (3, .box [.int .u32 0, .int .u32 0, .int .i64 0, .bool false, .int .u32 0, .nils, .nils, .int .i64 0, .int .i64 0, .bool false, .bool false, .bool false, .int .u32 0, .nils]), (4, .row 7 34 (toB9.map TDesc.c)), (5, .box (TDesc.c x1015)), (7, .row 7 34 ((toA8.drop 1).map TDesc.c))]) (next' := 8) rfl rfl rfl rfl elems_ro (by ((try simp only [List.length_append, List.length_cons, List.length_nil, List.length_map, decide_eq_true_eq, decide_eq_false_iff_not] at *) <;> omega)) (by ((try simp only [List.length_append, List.length_cons, List.length_nil, List.length_map, decide_eq_true_eq, decide_eq_false_iff_not] at *) <;> omega)) rfl rfl rfl rfl ?_
        refine GX.m rfl ?_
        refine GX.done ?_
        refine WK.seq ?_
        refine WK.sr mixed ?_
        refine GX.m rfl ?_
        refine GX.q (.bool (decide (x10 = 6))) ?_
        refine GX.done ?_
        rw [hb86]
        refine WK.condT rfl ?_
        refine WK.regx mixed ?_
        refine GX.m rfl ?_
        refine GX.q (.agg (TDesc.c x1015)) ?_
        refine GX.step (v' := .own 8 7 0 (([x1015] : List TDesc)).length) (heap' := [(0, .box (TSession.c a3)), (1, .box (TSession.c b4)), (2, .box [.int .u32 0, .int .u32 0, .int .i64 0, .bool false, .int .u32 0, .nils, .nils, .int .i64 0, .int .i64 0, .bool false, .bool false, .bool false, .int .u32 0, .nils]), (3, .box [.int .u32 0, .int .u32 0, .int .i64 0, .bool false, .int .u32 0, .nils, .nils, .int .i64 0, .int .i64 0, .bool false, .bool false, .bool false, .int .u32 0, .nils]), (4, .row 7 34 (toB9.map TDesc.c)), (5, .box (TDesc.c x1015)), (7, .row 7 34 ((toA8.drop 1).map TDesc.c)), (8, .row 7 34 (([x1015] : List TDesc).map TDesc.c))]) (next' := 9) rfl rfl rfl rfl rfl rfl rfl ?_
        refine GX.appT (c := TDesc.c) (L := (toA8.drop 1)) (X := ([x1015] : List TDesc)) (heap' := [(0, .box (TSession.c a3)), (1, .box (TSession.c b4)), (2, .box [.int .u32 0, .int .u32 0, .int .i64 0, .bool false, .int .u32 0, .nils, .nils, .int .i64 0, .int .i64 0, .bool false, .bool false, .bool false, .int .u32 0, .nils]), (3, .box [.int .u32 0, .int .u32 0, .int .i64 0, .bool false, .int .u32 0, .nils, .nils, .int .i64 0, .int .i64 0, .bool false, .bool false, .bool false, .int .u32 0, .nils]), (4, .row 7 34 (toB9.map TDesc.c)), (5, .box (TDesc.c x1015)), (8, .row 7 34 (([x1015] : List TDesc).map TDesc.c)), (9, .row 7 34 (((toA8.drop 1) ++ ([x1015] : List TDesc)).map TDesc.c))]) (next' := 10) rfl rfl rfl rfl (elems_own rfl) (by ((try simp only [List.length_append, List.length_cons, List.length_nil, List.length_map, decide_eq_true_eq, decide_eq_false_iff_not] at *) <;> omega)) (by ((try simp only [List.length_append, List.length_cons, List.length_nil, List.length_map, decide_eq_true_eq, decide_eq_false_iff_not] at *) <;> omega)) rfl rfl rfl rfl ?_
        refine GX.m rfl ?_
        refine GX.done ?_
        refine WK.sr mixed ?_
        refine GX.m rfl ?_
        refine GX.q (.bool (!decide (x10 = 2))) ?_
        refine GX.done ?_
        rw [hb85]
        refine WK.condT rfl ?_
        refine WK.sr mixed ?_
        refine GX.q (.agg (TSession.c a3)) ?_
        refine GX.q (.agg (TDesc.c x1015)) ?_
        generalize hc99 : F16_crossroadsref17_Hear a3 x1015 = c99 at hL_79
        rcases c99 with _ | c99
        ·try dsimp only at hL_79
         subst hL_79
         try dsimp only at hR
         cases hR
        try dsimp only at hL_79
        obtain ⟨c99a, c99b, c99c, c99d⟩ := c99; try dsimp only at hL_79
        refine GX.callp (r := .tup [.agg [.int .u32 c99a.Own, .int .u32 c99a.Peer, .int .i64 c99a.Phase, .bool c99a.Leads, .int .u32 c99a.Seq, .ro 8 (c99a.Left.map THeader.c), .ro 8 (c99a.Got.map THeader.c), .int .i64 c99a.Last.MTU, .int .i64 c99a.Last.Options, .bool c99a.Last.Init, .bool c99a.Last.More, .bool c99a.Last.Master, .int .u32 c99a.Last.Seq, .ro 8 (c99a.Last.Heads.map THeader.c)], .agg [.int .i64 c99b.MTU, .int .i64 c99b.Options, .bool c99b.Init, .bool c99b.More, .bool c99b.Master, .int .u32 c99b.Seq, .ro 8 (c99b.Heads.map THeader.c)], .bool c99c, .int .i64 c99d]) rfl rfl rfl (f16_ok a3 x1015 _ hc99) rfl rfl ?_
        refine GX.m rfl ?_
        refine GX.q (.agg [.int .u32 c99a.Own, .int .u32 c99a.Peer, .int .i64 c99a.Phase, .bool c99a.Leads, .int .u32 c99a.Seq, .ro 8 (c99a.Left.map THeader.c), .ro 8 (c99a.Got.map THeader.c), .int .i64 c99a.Last.MTU, .int .i64 c99a.Last.Options, .bool c99a.Last.Init, .bool c99a.Last.More, .bool c99a.Last.Master, .int .u32 c99a.Last.Seq, .ro 8 (c99a.Last.Heads.map THeader.c)]) ?_
        refine GX.q (.agg [.int .i64 c99b.MTU, .int .i64 c99b.Options, .bool c99b.Init, .bool c99b.More, .bool c99b.Master, .int .u32 c99b.Seq, .ro 8 (c99b.Heads.map THeader.c)]) ?_
        refine GX.q (.bool c99c) ?_
        refine GX.q (.int .i64 c99d) ?_
        refine GX.step (v' := .ptr 10 0) (heap' := [(0, .box (TSession.c a3)), (1, .box (TSession.c b4)), (2, .box [.int .u32 0, .int .u32 0, .int .i64 0, .bool false, .int .u32 0, .nils, .nils, .int .i64 0, .int .i64 0, .bool false, .bool false, .bool false, .int .u32 0, .nils]), (3, .box [.int .u32 0, .int .u32 0, .int .i64 0, .bool false, .int .u32 0, .nils, .nils, .int .i64 0, .int .i64 0, .bool false, .bool false, .bool false, .int .u32 0, .nils]), (4, .row 7 34 (toB9.map TDesc.c)), (5, .box (TDesc.c x1015)), (8, .row 7 34 (([x1015] : List TDesc).map TDesc.c)), (9, .row 7 34 (((toA8.drop 1) ++ ([x1015] : List TDesc)).map TDesc.c)), (10, .box [.int .u32 0, .int .u32 0, .int .i64 0, .bool false, .int .u32 0, .nils, .nils, .int .i64 0, .int .i64 0, .bool false, .bool false, .bool false, .int .u32 0, .nils])]) (next' := 11) rfl rfl rfl rfl rfl rfl rfl ?_
        refine GX.step (v' := .ptr 11 0) (heap' := [(0, .box (TSession.c a3)), (1, .box (TSession.c b4)), (2, .box [.int .u32 0, .int .u32 0, .int .i64 0, .bool false, .int .u32 0, .nils, .nils, .int .i64 0, .int .i64 0, .bool false, .bool false, .bool false, .int .u32 0, .nils]), (3, .box [.int .u32 0, .int .u32 0, .int .i64 0, .bool false, .int .u32 0, .nils, .nils, .int .i64 0, .int .i64 0, .bool false, .bool false, .bool false, .int .u32 0, .nils]), (4, .row 7 34 (toB9.map TDesc.c)), (5, .box (TDesc.c x1015)), (8, .row 7 34 (([x1015] : List TDesc).map TDesc.c)), (9, .row 7 34 (((toA8.drop 1) ++ ([x1015] : List TDesc)).map TDesc.c)), (10, .box [.int .u32 0, .int .u32 0, .int .i64 0, .bool false, .int .u32 0, .nils, .nils, .int .i64 0, .int .i64 0, .bool false, .bool false, .bool false, .int .u32 0, .nils]), (11, .box [.int .i64 0, .int .i64 0, .bool false, .bool false, .bool false, .int .u32 0, .nils])]) (next' := 12) rfl rfl rfl rfl rfl rfl rfl ?_
        refine GX.step0 (heap' := [(0, .box (TSession.c a3)), (1, .box (TSession.c b4)), (2, .box [.int .u32 0, .int .u32 0, .int .i64 0, .bool false, .int .u32 0, .nils, .nils, .int .i64 0, .int .i64 0, .bool false, .bool false, .bool false, .int .u32 0, .nils]), (3, .box [.int .u32 0, .int .u32 0, .int .i64 0, .bool false, .int .u32 0, .nils, .nils, .int .i64 0, .int .i64 0, .bool false, .bool false, .bool false, .int .u32 0, .nils]), (4, .row 7 34 (toB9.map TDesc.c)), (5, .box (TDesc.c x1015)), (8, .row 7 34 (([x1015] : List TDesc).map TDesc.c)), (9, .row 7 34 (((toA8.drop 1) ++ ([x1015] : List TDesc)).map TDesc.c)), (10, .box (TSession.c c99a)), (11, .box [.int .i64 0, .int .i64 0, .bool false, .bool false, .bool false, .int .u32 0, .nils])]) (next' := 12) rfl rfl rfl rfl rfl ?_
        refine GX.step0 (heap' := [(0, .box (TSession.c a3)), (1, .box (TSession.c b4)), (2, .box [.int .u32 0, .int .u32 0, .int .i64 0, .bool false, .int .u32 0, .nils, .nils, .int .i64 0, .int .i64 0, .bool false, .bool false, .bool false, .int .u32 0, .nils]), (3, .box [.int .u32 0, .int .u32 0, .int .i64 0, .bool false, .int .u32 0, .nils, .nils, .int .i64 0, .int .i64 0, .bool false, .bool false, .bool false, .int .u32 0, .nils]), (4, .row 7 34 (toB9.map TDesc.c)), (5, .box (TDesc.c x1015)), (8, .row 7 34 (([x1015] : List TDesc).map TDesc.c)), (9, .row 7 34 (((toA8.drop 1) ++ ([x1015] : List TDesc)).map TDesc.c)), (10, .box (TSession.c c99a)), (11, .box (TDesc.c c99b))]) (next' := 12) rfl rfl rfl rfl rfl ?_
        iterate 2 refine GX.m rfl ?_
        refine GX.done ?_
        refine WK.sr mixed ?_
        refine GX.q (.agg (TSession.c c99a)) ?_
        refine GX.step0 (heap' := [(0, .box (TSession.c c99a)), (1, .box (TSession.c b4)), (2, .box [.int .u32 0, .int .u32 0, .int .i64 0, .bool false, .int .u32 0, .nils, .nils, .int .i64 0, .int .i64 0, .bool false, .bool false, .bool false, .int .u32 0, .nils]), (3, .box [.int .u32 0, .int .u32 0, .int .i64 0, .bool false, .int .u32 0, .nils, .nils, .int .i64 0, .int .i64 0, .bool false, .bool false, .bool false, .int .u32 0, .nils]), (4, .row 7 34 (toB9.map TDesc.c)), (5, .box (TDesc.c x1015)), (8, .row 7 34 (([x1015] : List TDesc).map TDesc.c)), (9, .row 7 34 (((toA8.drop 1) ++ ([x1015] : List TDesc)).map TDesc.c)), (10, .box (TSession.c c99a)), (11, .box (TDesc.c c99b))]) (next' := 12) rfl rfl rfl rfl rfl ?_
        refine GX.done ?_
        refine WK.sr mixed ?_
        refine GX.m rfl ?_
        refine GX.done ?_
        rcases bool_two (c99c) with hb120 | hb120
        ·rw [hb120]; try simp only [hb120, bb] at hL_79
         refine WK.condF rfl ?_
         refine WK.skip ?_
         refine WK.sr mixed ?_
         refine GX.m rfl ?_
         refine GX.q (.bool (decide (x10 = 1))) ?_
         refine GX.m rfl ?_
         have hn121 : (decide (x10 = 1)) = false := decide_eq_false (by have h_ := of_decide_eq_true hb86; omega)
         rw [hn121]
         refine GX.m rfl ?_
         iterate 2 refine GX.q (.bool (decide (x10 = 3))) ?_
         refine GX.m rfl ?_
         have hn122 : (decide (x10 = 3)) = false := decide_eq_false (by have h_ := of_decide_eq_true hb86; omega)
         rw [hn122]
         refine GX.m rfl ?_
         iterate 2 refine GX.q (.bool (decide (x10 = 7))) ?_
         refine GX.m rfl ?_
         have hn123 : (decide (x10 = 7)) = false := decide_eq_false (by have h_ := of_decide_eq_true hb86; omega)
         rw [hn123]
         iterate 3 refine GX.skip rfl rfl ?_
         refine GX.q (.bool false) ?_
         refine GX.done ?_
         refine WK.condF rfl ?_
         refine WK.skip ?_
         refine WK.nil (QF.normal (hK81 _ ?_))
         refine WK.regx mixed ?_
         refine GX.m rfl ?_
         refine GX.pure (v' := .int .i64 ((i10 + 1 : Nat) : Int)) rfl rfl rfl rfl (congrArg (PVal.int .i64) (wrap_up hlt79 hlen_79)) ?_
         refine GX.m rfl ?_
         refine GX.done ?_
         refine WK.nil (QF.normal ?_)
         exact hagain_79 _ (fates2.length - (i10 + 1)) ⟨[(2, .ro 1 (fates2.map c_i64)), (3, .ptr 0 0), (4, .ptr 1 0), (6, .ptr 2 0), (7, .ptr 3 0), (8, .own 4 7 0 ((toA8.drop 1) ++ ([x1015] : List TDesc)).length), (9, .own 5 7 0 toB9.length), (10, .int .i64 ((i10 + 1) : Int))], [(0, .box (TSession.c c99a)), (1, .box (TSession.c b4)), (2, .box [.int .u32 0, .int .u32 0, .int .i64 0, .bool false, .int .u32 0, .nils, .nils, .int .i64 0, .int .i64 0, .bool false, .bool false, .bool false, .int .u32 0, .nils]), (3, .box [.int .u32 0, .int .u32 0, .int .i64 0, .bool false, .int .u32 0, .nils, .nils, .int .i64 0, .int .i64 0, .bool false, .bool false, .bool false, .int .u32 0, .nils]), (4, .row 7 34 (((toA8.drop 1) ++ ([x1015] : List TDesc)).map TDesc.c)), (5, .row 7 34 (toB9.map TDesc.c))], 6⟩ (by omega) (Conv.keep [0, 1, 2, 3, 9, 4] [] [2, 3, 4, 6, 7, 8, 9, 10] rfl rfl (viewE_cons rfl rfl (viewE_cons rfl rfl (viewE_cons rfl rfl (viewE_cons rfl rfl (viewE_cons rfl rfl (viewE_cons rfl rfl (viewE_cons rfl rfl (viewE_cons rfl rfl viewE_nil)))))))) rfl rfl) ⟨i10 + 1, c99a, b4, ((toA8.drop 1) ++ ([x1015] : List TDesc)), toB9, (by omega), rfl, hL_79, rfl⟩
        ·rw [hb120]; try simp only [hb120, bb] at hL_79
         refine WK.condT rfl ?_
         refine WK.regx mixed ?_
         refine GX.m rfl ?_
         refine GX.q (.agg (TDesc.c c99b)) ?_
         refine GX.step (v' := .own 12 7 0 (([c99b] : List TDesc)).length) (heap' := [(0, .box (TSession.c c99a)), (1, .box (TSession.c b4)), (2, .box [.int .u32 0, .int .u32 0, .int .i64 0, .bool false, .int .u32 0, .nils, .nils, .int .i64 0, .int .i64 0, .bool false, .bool false, .bool false, .int .u32 0, .nils]), (3, .box [.int .u32 0, .int .u32 0, .int .i64 0, .bool false, .int .u32 0, .nils, .nils, .int .i64 0, .int .i64 0, .bool false, .bool false, .bool false, .int .u32 0, .nils]), (4, .row 7 34 (toB9.map TDesc.c)), (5, .box (TDesc.c x1015)), (8, .row 7 34 (([x1015] : List TDesc).map TDesc.c)), (9, .row 7 34 (((toA8.drop 1) ++ ([x1015] : List TDesc)).map TDesc.c)), (10, .box (TSession.c c99a)), (11, .box (TDesc.c c99b)), (12, .row 7 34 (([c99b] : List TDesc).map TDesc.c))]) (next' := 13) rfl rfl rfl rfl rfl rfl rfl ?_
         rcases bool_two (decide (toB9.length < 1099511627776)) with hg124 | hg124
         ·simp only [hg124, bb] at hL_79
          try dsimp only at hL_79
          subst hL_79
          try dsimp only at hR
          cases hR
         simp only [hg124, bb] at hL_79
         have hg124_ := of_decide_eq_true hg124
         refine GX.appT (c := TDesc.c) (L := toB9) (X := ([c99b] : List TDesc)) (heap' := [(0, .box (TSession.c c99a)), (1, .box (TSession.c b4)), (2, .box [.int .u32 0, .int .u32 0, .int .i64 0, .bool false, .int .u32 0, .nils, .nils, .int .i64 0, .int .i64 0, .bool false, .bool false, .bool false, .int .u32 0, .nils]), (3, .box [.int .u32 0, .int .u32 0, .int .i64 0, .bool false, .int .u32 0, .nils, .nils, .int .i64 0, .int .i64 0, .bool false, .bool false, .bool false, .int .u32 0, .nils]), (5, .box (TDesc.c x1015)), (8, .row 7 34 (([x1015] : List TDesc).map TDesc.c)), (9, .row 7 34 (((toA8.drop 1) ++ ([x1015] : List TDesc)).map TDesc.c)), (10, .box (TSession.c c99a)), (11, .box (TDesc.c c99b)), (12, .row 7 34 (([c99b] : List TDesc).map TDesc.c)), (13, .row 7 34 ((toB9 ++ ([c99b] : List TDesc)).map TDesc.c))]) (next' := 14) rfl rfl rfl rfl (elems_own rfl) (by ((try simp only [List.length_append, List.length_cons, List.length_nil, List.length_map, decide_eq_true_eq, decide_eq_false_iff_not] at *) <;> omega)) (by ((try simp only [List.length_append, List.length_cons, List.length_nil, List.length_map, decide_eq_true_eq, decide_eq_false_iff_not] at *) <;> omega)) rfl rfl rfl rfl ?_
         refine GX.m rfl ?_
         refine GX.done ?_
         refine WK.sr mixed ?_
         refine GX.m rfl ?_
         refine GX.q (.bool (decide (x10 = 1))) ?_
         refine GX.m rfl ?_
         have hn125 : (decide (x10 = 1)) = false := decide_eq_false (by have h_ := of_decide_eq_true hb86; omega)
         rw [hn125]
         refine GX.m rfl ?_
         iterate 2 refine GX.q (.bool (decide (x10 = 3))) ?_
         refine GX.m rfl ?_
         have hn126 : (decide (x10 = 3)) = false := decide_eq_false (by have h_ := of_decide_eq_true hb86; omega)
         rw [hn126]
         refine GX.m rfl ?_
         iterate 2 refine GX.q (.bool (decide (x10 = 7))) ?_
         refine GX.m rfl ?_
         have hn127 : (decide (x10 = 7)) = false := decide_eq_false (by have h_ := of_decide_eq_true hb86; omega)
         rw [hn127]
         iterate 3 refine GX.skip rfl rfl ?_
         refine GX.q (.bool false) ?_
         refine GX.done ?_
         refine WK.condF rfl ?_
         refine WK.skip ?_
         refine WK.nil (QF.normal (hK81 _ ?_))
         refine WK.regx mixed ?_
         refine GX.m rfl ?_
         refine GX.pure (v' := .int .i64 ((i10 + 1 : Nat) : Int)) rfl rfl rfl rfl (congrArg (PVal.int .i64) (wrap_up hlt79 hlen_79)) ?_
         refine GX.m rfl ?_
         refine GX.done ?_
         refine WK.nil (QF.normal ?_)
         exact hagain_79 _ (fates2.length - (i10 + 1)) ⟨[(2, .ro 1 (fates2.map c_i64)), (3, .ptr 0 0), (4, .ptr 1 0), (6, .ptr 2 0), (7, .ptr 3 0), (8, .own 4 7 0 ((toA8.drop 1) ++ ([x1015] : List TDesc)).length), (9, .own 5 7 0 (toB9 ++ ([c99b] : List TDesc)).length), (10, .int .i64 ((i10 + 1) : Int))], [(0, .box (TSession.c c99a)), (1, .box (TSession.c b4)), (2, .box [.int .u32 0, .int .u32 0, .int .i64 0, .bool false, .int .u32 0, .nils, .nils, .int .i64 0, .int .i64 0, .bool false, .bool false, .bool false, .int .u32 0, .nils]), (3, .box [.int .u32 0, .int .u32 0, .int .i64 0, .bool false, .int .u32 0, .nils, .nils, .int .i64 0, .int .i64 0, .bool false, .bool false, .bool false, .int .u32 0, .nils]), (4, .row 7 34 (((toA8.drop 1) ++ ([x1015] : List TDesc)).map TDesc.c)), (5, .row 7 34 ((toB9 ++ ([c99b] : List TDesc)).map TDesc.c))], 6⟩ (by omega) (Conv.keep [0, 1, 2, 3, 9, 13] [] [2, 3, 4, 6, 7, 8, 9, 10] rfl rfl (viewE_cons rfl rfl (viewE_cons rfl rfl (viewE_cons rfl rfl (viewE_cons rfl rfl (viewE_cons rfl rfl (viewE_cons rfl rfl (viewE_cons rfl rfl (viewE_cons rfl rfl viewE_nil)))))))) rfl rfl) ⟨i10 + 1, c99a, b4, ((toA8.drop 1) ++ ([x1015] : List TDesc)), (toB9 ++ ([c99b] : List TDesc)), (by omega), rfl, hL_79, rfl⟩
     ·rw [hb85]; try simp only [hb85, bb] at hL_79
      iterate 2 refine GX.skip rfl rfl ?_
      refine GX.q (.bool true) ?_
      iterate 2 refine GX.m rfl ?_
      refine GX.q (.int .i64 (toA8.length : Int)) ?_
      iterate 2 refine GX.q (.bool (decide (0 < (toA8.length : Int)))) ?_
      refine GX.done ?_
      rcases bool_two (decide (0 < (toA8.length : Int))) with hb128 | hb128
      ·rw [hb128]; try simp only [hb128, bb] at hL_79
       refine WK.condF rfl ?_
       refine WK.skip ?_
       refine WK.sr mixed ?_
       refine GX.m rfl ?_
       refine GX.q (.bool (decide (x10 = 1))) ?_
       refine GX.m rfl ?_
       have hn129 : (decide (x10 = 1)) = false := decide_eq_false (by have h_ := of_decide_eq_true hb85; omega)
       rw [hn129]
       refine GX.m rfl ?_
       iterate 2 refine GX.q (.bool (decide (x10 = 3))) ?_
       refine GX.m rfl ?_
       have hn130 : (decide (x10 = 3)) = false := decide_eq_false (by have h_ := of_decide_eq_true hb85; omega)
       rw [hn130]
       refine GX.m rfl ?_
       iterate 2 refine GX.q (.bool (decide (x10 = 7))) ?_
       refine GX.m rfl ?_
       have hn131 : (decide (x10 = 7)) = false := decide_eq_false (by have h_ := of_decide_eq_true hb85; omega)
       rw [hn131]
       iterate 3 refine GX.skip rfl rfl ?_
       refine GX.q (.bool false) ?_
       refine GX.done ?_
       refine WK.condF rfl ?_
       refine WK.skip ?_
       refine WK.nil (QF.normal (hK81 _ ?_))
       refine WK.regx mixed ?_
       refine GX.m rfl ?_
       refine GX.pure (v' := .int .i64 ((i10 + 1 : Nat) : Int)) rfl rfl rfl rfl (congrArg (PVal.int .i64) (wrap_up hlt79 hlen_79)) ?_
       refine GX.m rfl ?_
       refine GX.done ?_
       refine WK.nil (QF.normal ?_)
       exact hagain_79 _ (fates2.length - (i10 + 1)) ⟨[(2, .ro 1 (fates2.map c_i64)), (3, .ptr 0 0), (4, .ptr 1 0), (6, .ptr 2 0), (7, .ptr 3 0), (8, .own 4 7 0 toA8.length), (9, .own 5 7 0 toB9.length), (10, .int .i64 ((i10 + 1) : Int))], [(0, .box (TSession.c a3)), (1, .box (TSession.c b4)), (2, .box [.int .u32 0, .int .u32 0, .int .i64 0, .bool false, .int .u32 0, .nils, .nils, .int .i64 0, .int .i64 0, .bool false, .bool false, .bool false, .int .u32 0, .nils]), (3, .box [.int .u32 0, .int .u32 0, .int .i64 0, .bool false, .int .u32 0, .nils, .nils, .int .i64 0, .int .i64 0, .bool false, .bool false, .bool false, .int .u32 0, .nils]), (4, .row 7 34 (toA8.map TDesc.c)), (5, .row 7 34 (toB9.map TDesc.c))], 6⟩ (by omega) (Conv.keep [0, 1, 2, 3, 4, 5] [] [2, 3, 4, 6, 7, 8, 9, 10] rfl rfl (viewE_cons rfl rfl (viewE_cons rfl rfl (viewE_cons rfl rfl (viewE_cons rfl rfl (viewE_cons rfl rfl (viewE_cons rfl rfl (viewE_cons rfl rfl (viewE_cons rfl rfl viewE_nil)))))))) rfl rfl) ⟨i10 + 1, a3, b4, toA8, toB9, (by omega), rfl, hL_79, rfl⟩
      ·rw [hb128]; try simp only [hb128, bb] at hL_79
       refine WK.condT rfl ?_
       refine WK.sr mixed ?_
       refine GX.m rfl ?_
       generalize hx1031 : getI toA8 0 = x1031 at hL_79
       rcases x1031 with _ | x1031
       ·try dsimp only at hL_79
        subst hL_79
        try dsimp only at hR
        cases hR
       try dsimp only at hL_79
       obtain ⟨hx10310, hx1031j, hx1031l, hx1031⟩ := getI_some hx1031
       refine GX.pure (v' := .eptr 4 7 0 0) rfl rfl rfl (core_idxoT (c := TDesc.c) (L := toA8) (j := 0) rfl hx1031j hx1031l (by exact Nat.le_refl _)) rfl ?_
       refine GX.pure (v' := .agg (TDesc.c x1031)) rfl rfl rfl (core_loaT (c := TDesc.c) (L := toA8) (x := x1031) rfl hx1031 rfl) rfl ?_
       refine GX.step (v' := .ptr 6 0) (heap' := [(0, .box (TSession.c a3)), (1, .box (TSession.c b4)), (2, .box [.int .u32 0, .int .u32 0, .int .i64 0, .bool false, .int .u32 0, .nils, .nils, .int .i64 0, .int .i64 0, .bool false, .bool false, .bool false, .int .u32 0, .nils]), (3, .box [.int .u32 0, .int .u32 0, .int .i64 0, .bool false, .int .u32 0, .nils, .nils, .int .i64 0, .int .i64 0, .bool false, .bool false, .bool false, .int .u32 0, .nils]), (4, .row 7 34 (toA8.map TDesc.c)), (5, .row 7 34 (toB9.map TDesc.c)), (6, .box [.int .i64 0, .int .i64 0, .bool false, .bool false, .bool false, .int .u32 0, .nils])]) (next' := 7) rfl rfl rfl rfl rfl rfl rfl ?_
       refine GX.step0 (heap' := [(0, .box (TSession.c a3)), (1, .box (TSession.c b4)), (2, .box [.int .u32 0, .int .u32 0, .int .i64 0, .bool false, .int .u32 0, .nils, .nils, .int .i64 0, .int .i64 0, .bool false, .bool false, .bool false, .int .u32 0, .nils]), (3, .box [.int .u32 0, .int .u32 0, .int .i64 0, .bool false, .int .u32 0, .nils, .nils, .int .i64 0, .int .i64 0, .bool false, .bool false, .bool false, .int .u32 0, .nils]), (4, .row 7 34 (toA8.map TDesc.c)), (5, .row 7 34 (toB9.map TDesc.c)), (6, .box (TDesc.c x1031))]) (next' := 7) rfl rfl rfl rfl rfl ?_
       refine GX.done ?_
       refine WK.seq ?_
       refine WK.conv (st' := ⟨[(2, .ro 1 (fates2.map c_i64)), (3, .ptr 0 0), (4, .ptr 1 0), (6, .ptr 2 0), (7, .ptr 3 0), (8, .ro 7 (toA8.map TDesc.c)), (9, .own 4 7 0 toB9.length), (10, .int .i64 (i10 : Int)), (11, .int .i64 x10), (16, .ptr 5 0), (69, .int .i64 x10), (70, .bool true), (73, .hole), (74, .hole), (77, .ro 7 (toA8.map TDesc.c)), (78, .int .i64 (toA8.length : Int)), (79, .bool true)], [(0, .box (TSession.c a3)), (1, .box (TSession.c b4)), (2, .box [.int .u32 0, .int .u32 0, .int .i64 0, .bool false, .int .u32 0, .nils, .nils, .int .i64 0, .int .i64 0, .bool false, .bool false, .bool false, .int .u32 0, .nils]), (3, .box [.int .u32 0, .int .u32 0, .int .i64 0, .bool false, .int .u32 0, .nils, .nils, .int .i64 0, .int .i64 0, .bool false, .bool false, .bool false, .int .u32 0, .nils]), (4, .row 7 34 (toB9.map TDesc.c)), (5, .box (TDesc.c x1031))], 6⟩) (Conv.keep [0, 1, 2, 3, 5, 6] [4] [2, 3, 4, 6, 7, 8, 9, 10, 11, 16, 69, 70, 73, 74, 77, 78, 79] rfl rfl (viewE_cons rfl rfl (viewE_cons rfl rfl (viewE_cons rfl rfl (viewE_cons rfl rfl (viewE_cons rfl rfl (viewE_cons rfl (view_rowT rfl rfl) (viewE_cons rfl rfl (viewE_cons rfl rfl (viewE_cons rfl rfl (viewE_cons rfl rfl (viewE_cons rfl rfl (viewE_cons rfl rfl (viewE_cons rfl rfl (viewE_cons rfl rfl (viewE_cons rfl (view_rowT rfl rfl) (viewE_cons rfl rfl (viewE_cons rfl rfl viewE_nil))))))))))))))))) rfl rfl) ?_ (by simp)
       refine WK.regx mixed ?_
       refine GX.step (v' := .own 6 7 0 (([] : List TDesc)).length) (heap' := [(0, .box (TSession.c a3)), (1, .box (TSession.c b4)), (2, .box [.int .u32 0, .int .u32 0, .int .i64 0, .bool false, .int .u32 0, .nils, .nils, .int .i64 0, .int .i64 0, .bool false, .bool false, .bool false, .int .u32 0, .nils]), (3, .box [.int .u32 0, .int .u32 0, .int .i64 0, .bool false, .int .u32 0, .nils, .nils, .int .i64 0, .int .i64 0, .bool false, .bool false, .bool false, .int .u32 0, .nils]), (4, .row 7 34 (toB9.map TDesc.c)), (5, .box (TDesc.c x1031)), (6, .row 7 34 (([] : List TDesc).map TDesc.c))]) (next' := 7) rfl rfl rfl rfl rfl rfl rfl ?_
       refine GX.m rfl ?_
       rcases bool_two (decide ((1 : Int) ≤ (toA8.length : Int))) with hg134 | hg134
       ·simp only [hg134, bb] at hL_79
        try dsimp only at hL_79
        subst hL_79
        try dsimp only at hR
        cases hR
       simp only [hg134, bb] at hL_79
       have hg134_ := of_decide_eq_true hg134
       refine GX.sliceLo (c := TDesc.c) (M := (toA8.drop 1)) rfl rfl rfl (by omega) (by omega) rfl ?_
       rcases bool_two (decide ((toA8.drop 1).length < 1099511627776)) with hg135 | hg135
       ·simp only [hg135, bb] at hL_79
        try dsimp only at hL_79
        subst hL_79
        try dsimp only at hR
        cases hR
       simp only [hg135, bb] at hL_79
       have hg135_ := of_decide_eq_true hg135
       refine GX.appT (c := TDesc.c) (L := ([] : List TDesc)) (X := (toA8.drop 1)) (heap' := [(0, .box (TSession.c a3)), (1, .box (TSession.c b4)), (2, .box [.int .u32 0, .int .u32 0, .int .i64 0, .bool false, .int .u32 0, .nils, .nils, .int .i64 0, .int .i64 0, .bool false, .bool false, .bool false, .int .u32 0, .nils]), (3, .box [.int .u32 0, .int .u32 0, .int .i64 0, .bool false, .int .u32 0, .nils, .nils, .int .i64 0, .int .i64 0, .bool false, .bool false, .bool false, .int .u32 0, .nils]), (4, .row 7 34 (toB9.map TDesc.c)), (5, .box (TDesc.c x1031)), (7, .row 7 34 ((toA8.drop 1).map TDesc.c))]) (next' := 8) rfl rfl rfl rfl elems_ro (by ((try simp only [List.length_append, List.length_cons, List.length_nil, List.length_map, decide_eq_true_eq, decide_eq_false_iff_not] at *) <;> omega)) (by ((try simp only [List.length_append, List.length_cons, List.length_nil, List.length_map, decide_eq_true_eq, decide_eq_false_iff_not] at *) <;> omega)) rfl rfl rfl rfl ?_
       refine GX.m rfl ?_
       refine GX.done ?_
       refine WK.seq ?_
       refine WK.sr mixed ?_
       refine GX.m rfl ?_
       refine GX.q (.bool (decide (x10 = 6))) ?_
       refine GX.done ?_
       have hn136 : (decide (x10 = 6)) = false := decide_eq_false (by have h_ := of_decide_eq_true hb85; omega)
       rw [hn136]
       refine WK.condF rfl ?_
       refine WK.skip ?_
       refine WK.sr mixed ?_
       refine GX.m rfl ?_
       refine GX.q (.bool (!decide (x10 = 2))) ?_
       refine GX.done ?_
       rw [hb85]
       refine WK.condF rfl ?_
       refine WK.skip ?_
       refine WK.sr mixed ?_
       refine GX.m rfl ?_
       refine GX.q (.bool (decide (x10 = 1))) ?_
       refine GX.m rfl ?_
       have hn137 : (decide (x10 = 1)) = false := decide_eq_false (by have h_ := of_decide_eq_true hb85; omega)
       rw [hn137]
       refine GX.m rfl ?_
       iterate 2 refine GX.q (.bool (decide (x10 = 3))) ?_
       refine GX.m rfl ?_
       have hn138 : (decide (x10 = 3)) = false := decide_eq_false (by have h_ := of_decide_eq_true hb85; omega)
       rw [hn138]
       refine GX.m rfl ?_
       iterate 2 refine GX.q (.bool (decide (x10 = 7))) ?_
       refine GX.m rfl ?_
       have hn139 : (decide (x10 = 7)) = false := decide_eq_false (by have h_ := of_decide_eq_true hb85; omega)
       rw [hn139]
       iterate 3 refine GX.skip rfl rfl ?_
       refine GX.q (.bool false) ?_
       refine GX.done ?_
       refine WK.condF rfl ?_
       refine WK.skip ?_
       refine WK.nil (QF.normal (hK81 _ ?_))
       refine WK.regx mixed ?_
       refine GX.m rfl ?_
       refine GX.pure (v' := .int .i64 ((i10 + 1 : Nat) : Int)) rfl rfl rfl rfl (congrArg (PVal.int .i64) (wrap_up hlt79 hlen_79)) ?_
       refine GX.m rfl ?_
       refine GX.done ?_
       refine WK.nil (QF.normal ?_)
       exact hagain_79 _ (fates2.length - (i10 + 1)) ⟨[(2, .ro 1 (fates2.map c_i64)), (3, .ptr 0 0), (4, .ptr 1 0), (6, .ptr 2 0), (7, .ptr 3 0), (8, .own 4 7 0 (toA8.drop 1).length), (9, .own 5 7 0 toB9.length), (10, .int .i64 ((i10 + 1) : Int))], [(0, .box (TSession.c a3)), (1, .box (TSession.c b4)), (2, .box [.int .u32 0, .int .u32 0, .int .i64 0, .bool false, .int .u32 0, .nils, .nils, .int .i64 0, .int .i64 0, .bool false, .bool false, .bool false, .int .u32 0, .nils]), (3, .box [.int .u32 0, .int .u32 0, .int .i64 0, .bool false, .int .u32 0, .nils, .nils, .int .i64 0, .int .i64 0, .bool false, .bool false, .bool false, .int .u32 0, .nils]), (4, .row 7 34 ((toA8.drop 1).map TDesc.c)), (5, .row 7 34 (toB9.map TDesc.c))], 6⟩ (by omega) (Conv.keep [0, 1, 2, 3, 7, 4] [] [2, 3, 4, 6, 7, 8, 9, 10] rfl rfl (viewE_cons rfl rfl (viewE_cons rfl rfl (viewE_cons rfl rfl (viewE_cons rfl rfl (viewE_cons rfl rfl (viewE_cons rfl rfl (viewE_cons rfl rfl (viewE_cons rfl rfl viewE_nil)))))))) rfl rfl) ⟨i10 + 1, a3, b4, (toA8.drop 1), toB9, (by omega), rfl, hL_79, rfl⟩
    ·rw [hb84]; try simp only [hb84, bb] at hL_79
     iterate 2 refine GX.skip rfl rfl ?_
     refine GX.q (.bool true) ?_
     refine GX.m rfl ?_
     iterate 2 refine GX.skip rfl rfl ?_
     refine GX.q (.bool true) ?_
     iterate 2 refine GX.m rfl ?_
     refine GX.q (.int .i64 (toA8.length : Int)) ?_
     iterate 2 refine GX.q (.bool (decide (0 < (toA8.length : Int)))) ?_
     refine GX.done ?_
     rcases bool_two (decide (0 < (toA8.length : Int))) with hb140 | hb140
     ·rw [hb140]; try simp only [hb140, bb] at hL_79
      refine WK.condF rfl ?_
      refine WK.skip ?_
      refine WK.sr mixed ?_
      refine GX.m rfl ?_
      refine GX.q (.bool (decide (x10 = 1))) ?_
      refine GX.m rfl ?_
      have hn141 : (decide (x10 = 1)) = false := decide_eq_false (by have h_ := of_decide_eq_true hb84; omega)
      rw [hn141]
      refine GX.m rfl ?_
      iterate 2 refine GX.q (.bool (decide (x10 = 3))) ?_
      refine GX.m rfl ?_
      have hn142 : (decide (x10 = 3)) = false := decide_eq_false (by have h_ := of_decide_eq_true hb84; omega)
      rw [hn142]
      refine GX.m rfl ?_
      iterate 2 refine GX.q (.bool (decide (x10 = 7))) ?_
      refine GX.m rfl ?_
      have hn143 : (decide (x10 = 7)) = false := decide_eq_false (by have h_ := of_decide_eq_true hb84; omega)
      rw [hn143]
      iterate 3 refine GX.skip rfl rfl ?_
      refine GX.q (.bool false) ?_
      refine GX.done ?_
      refine WK.condF rfl ?_
      refine WK.skip ?_
      refine WK.nil (QF.normal (hK81 _ ?_))
      refine WK.regx mixed ?_
      refine GX.m rfl ?_
      refine GX.pure (v' := .int .i64 ((i10 + 1 : Nat) : Int)) rfl rfl rfl rfl (congrArg (PVal.int .i64) (wrap_up hlt79 hlen_79)) ?_
      refine GX.m rfl ?_
      refine GX.done ?_
      refine WK.nil (QF.normal ?_)
      exact hagain_79 _ (fates2.length - (i10 + 1)) ⟨[(2, .ro 1 (fates2.map c_i64)), (3, .ptr 0 0), (4, .ptr 1 0), (6, .ptr 2 0), (7, .ptr 3 0), (8, .own 4 7 0 toA8.length), (9, .own 5 7 0 toB9.length), (10, .int .i64 ((i10 + 1) : Int))], [(0, .box (TSession.c a3)), (1, .box (TSession.c b4)), (2, .box [.int .u32 0, .int .u32 0, .int .i64 0, .bool false, .int .u32 0, .nils, .nils, .int .i64 0, .int .i64 0, .bool false, .bool false, .bool false, .int .u32 0, .nils]), (3, .box [.int .u32 0, .int .u32 0, .int .i64 0, .bool false, .int .u32 0, .nils, .nils, .int .i64 0, .int .i64 0, .bool false, .bool false, .bool false, .int .u32 0, .nils]), (4, .row 7 34 (toA8.map TDesc.c)), (5, .row 7 34 (toB9.map TDesc.c))], 6⟩ (by omega) (Conv.keep [0, 1, 2, 3, 4, 5] [] [2, 3, 4, 6, 7, 8, 9, 10] rfl rfl (viewE_cons rfl rfl (viewE_cons rfl rfl (viewE_cons rfl rfl (viewE_cons rfl rfl (viewE_cons rfl rfl (viewE_cons rfl rfl (viewE_cons rfl rfl (viewE_cons rfl rfl viewE_nil)))))))) rfl rfl) ⟨i10 + 1, a3, b4, toA8, toB9, (by omega), rfl, hL_79, rfl⟩
     ·rw [hb140]; try simp only [hb140, bb] at hL_79
      refine WK.condT rfl ?_
      refine WK.sr mixed ?_
      refine GX.m rfl ?_
      generalize hx1043 : getI toA8 0 = x1043 at hL_79
      rcases x1043 with _ | x1043
      ·try dsimp only at hL_79
       subst hL_79
       try dsimp only at hR
       cases hR
      try dsimp only at hL_79
      obtain ⟨hx10430, hx1043j, hx1043l, hx1043⟩ := getI_some hx1043
      refine GX.pure (v' := .eptr 4 7 0 0) rfl rfl rfl (core_idxoT (c := TDesc.c) (L := toA8) (j := 0) rfl hx1043j hx1043l (by exact Nat.le_refl _)) rfl ?_
      refine GX.pure (v' := .agg (TDesc.c x1043)) rfl rfl rfl (core_loaT (c := TDesc.c) (L := toA8) (x := x1043) rfl hx1043 rfl) rfl ?_
      refine GX.step (v' := .ptr 6 0) (heap' := [(0, .box (TSession.c a3)), (1, .box (TSession.c b4)), (2, .box [.int .u32 0, .int .u32 0, .int .i64 0, .bool false, .int .u32 0, .nils, .nils, .int .i64 0, .int .i64 0, .bool false, .bool false, .bool false, .int .u32 0, .nils]), (3, .box [.int .u32 0, .int .u32 0, .int .i64 0, .bool false, .int .u32 0, .nils, .nils, .int .i64 0, .int .i64 0, .bool false, .bool false, .bool false, .int .u32 0, .nils]), (4, .row 7 34 (toA8.map TDesc.c)), (5, .row 7 34 (toB9.map TDesc.c)), (6, .box [.int .i64 0, .int .i64 0, .bool false, .bool false, .bool false, .int .u32 0, .nils])]) (next' := 7) rfl rfl rfl rfl rfl rfl rfl ?_
      refine GX.step0 (heap' := [(0, .box (TSession.c a3)), (1, .box (TSession.c b4)), (2, .box [.int .u32 0, .int .u32 0, .int .i64 0, .bool false, .int .u32 0, .nils, .nils, .int .i64 0, .int .i64 0, .bool false, .bool false, .bool false, .int .u32 0, .nils]), (3, .box [.int .u32 0, .int .u32 0, .int .i64 0, .bool false, .int .u32 0, .nils, .nils, .int .i64 0, .int .i64 0, .bool false, .bool false, .bool false, .int .u32 0, .nils]), (4, .row 7 34 (toA8.map TDesc.c)), (5, .row 7 34 (toB9.map TDesc.c)), (6, .box (TDesc.c x1043))]) (next' := 7) rfl rfl rfl rfl rfl ?_
      refine GX.done ?_
      refine WK.seq ?_
      refine WK.conv (st' := ⟨[(2, .ro 1 (fates2.map c_i64)), (3, .ptr 0 0), (4, .ptr 1 0), (6, .ptr 2 0), (7, .ptr 3 0), (8, .ro 7 (toA8.map TDesc.c)), (9, .own 4 7 0 toB9.length), (10, .int .i64 (i10 : Int)), (11, .int .i64 x10), (16, .ptr 5 0), (69, .hole), (70, .hole), (73, .hole), (74, .hole), (77, .ro 7 (toA8.map TDesc.c)), (78, .int .i64 (toA8.length : Int)), (79, .bool true)], [(0, .box (TSession.c a3)), (1, .box (TSession.c b4)), (2, .box [.int .u32 0, .int .u32 0, .int .i64 0, .bool false, .int .u32 0, .nils, .nils, .int .i64 0, .int .i64 0, .bool false, .bool false, .bool false, .int .u32 0, .nils]), (3, .box [.int .u32 0, .int .u32 0, .int .i64 0, .bool false, .int .u32 0, .nils, .nils, .int .i64 0, .int .i64 0, .bool false, .bool false, .bool false, .int .u32 0, .nils]), (4, .row 7 34 (toB9.map TDesc.c)), (5, .box (TDesc.c x1043))], 6⟩) (Conv.keep [0, 1, 2, 3, 5, 6] [4] [2, 3, 4, 6, 7, 8, 9, 10, 11, 16, 69, 70, 73, 74, 77, 78, 79] rfl rfl (viewE_cons rfl rfl (viewE_cons rfl rfl (viewE_cons rfl rfl (viewE_cons rfl rfl (viewE_cons rfl rfl (viewE_cons rfl (view_rowT rfl rfl) (viewE_cons rfl rfl (viewE_cons rfl rfl (viewE_cons rfl rfl (viewE_cons rfl rfl (viewE_cons rfl rfl (viewE_cons rfl rfl (viewE_cons rfl rfl (viewE_cons rfl rfl (viewE_cons rfl (view_rowT rfl rfl) (viewE_cons rfl rfl (viewE_cons rfl rfl viewE_nil))))))))))))))))) rfl rfl) ?_ (by simp)
      refine WK.regx mixed ?_
      refine GX.step (v' := .own 6 7 0 (([] : List TDesc)).length) (heap' := [(0, .box (TSession.c a3)), (1, .box (TSession.c b4)), (2, .box [.int .u32 0, .int .u32 0, .int .i64 0, .bool false, .int .u32 0, .nils, .nils, .int .i64 0, .int .i64 0, .bool false, .bool false, .bool false, .int .u32 0, .nils]), (3, .box [.int .u32 0, .int .u32 0, .int .i64 0, .bool false, .int .u32 0, .nils, .nils, .int .i64 0, .int .i64 0, .bool false, .bool false, .bool false, .int .u32 0, .nils]), (4, .row 7 34 (toB9.map TDesc.c)), (5, .box (TDesc.c x1043)), (6, .row 7 34 (([] : List TDesc).map TDesc.c))]) (next' := 7) rfl rfl rfl rfl rfl rfl rfl ?_
      refine GX.m rfl ?_
      rcases bool_two (decide ((1 : Int) ≤ (toA8.length : Int))) with hg146 | hg146
      ·simp only [hg146, bb] at hL_79
       try dsimp only at hL_79
       subst hL_79
       try dsimp only at hR
       cases hR
      simp only [hg146, bb] at hL_79
      have hg146_ := of_decide_eq_true hg146
      refine GX.sliceLo (c := TDesc.c) (M := (toA8.drop 1)) rfl rfl rfl (by omega) (by omega) rfl ?_
      rcases bool_two (decide ((toA8.drop 1).length < 1099511627776)) with hg147 | hg147
      ·simp only [hg147, bb] at hL_79
       try dsimp only at hL_79
       subst hL_79
       try dsimp only at hR
       cases hR
      simp only [hg147, bb] at hL_79
      have hg147_ := of_decide_eq_true hg147
      refine GX.appT (c := TDesc.c) (L := ([] : List TDesc)) (X := (toA8.drop 1)) (heap' := [(0, .box (TSession.c a3)), (1, .box (TSession.c b4)), (2, .box [.int .u32 0, .int .u32 0, .int .i64 0, .bool false, .int .u32 0, .nils, .nils, .int .i64 0, .int .i64 0, .bool false, .bool false, .bool false, .int .u32 0, .nils]), (3, .box [.int .u32 0, .int .u32 0, .int .i64 0, .bool false, .int .u32 0, .nils, .nils, .int .i64 0, .int .i64 0, .bool false, .bool false, .bool false, .int .u32 0, .nils]), (4, .row 7 34 (toB9.map TDesc.c)), (5, .box (TDesc.c x1043)), (7, .row 7 34 ((toA8.drop 1).map TDesc.c))]) (next' := 8) rfl rfl rfl rfl elems_ro (by ((try simp only [List.length_append, List.length_cons, List.length_nil, List.length_map, decide_eq_true_eq, decide_eq_false_iff_not] at *) <;> omega)) (by ((try simp only [List.length_append, List.length_cons, List.length_nil, List.length_map, decide_eq_true_eq, decide_eq_false_iff_not] at *) <;> omega)) rfl rfl rfl rfl ?_
      refine GX.m rfl ?_
      refine GX.done ?_
      refine WK.seq ?_
      refine WK.sr mixed ?_
      refine GX.m rfl ?_
      refine GX.q (.bool (decide (x10 = 6))) ?_
      refine GX.done ?_
      have hn148 : (decide (x10 = 6)) = false := decide_eq_false (by have h_ := of_decide_eq_true hb84; omega)
      rw [hn148]
      refine WK.condF rfl ?_
      refine WK.skip ?_
      refine WK.sr mixed ?_
      refine GX.m rfl ?_
      refine GX.q (.bool (!decide (x10 = 2))) ?_
      refine GX.done ?_
      have hn149 : (decide (x10 = 2)) = false := decide_eq_false (by have h_ := of_decide_eq_true hb84; omega)
      rw [hn149]
      refine WK.condT rfl ?_
      refine WK.sr mixed ?_
      refine GX.q (.agg (TSession.c a3)) ?_
      refine GX.q (.agg (TDesc.c x1043)) ?_
      generalize hc99 : F16_crossroadsref17_Hear a3 x1043 = c99 at hL_79
      rcases c99 with _ | c99
      ·try dsimp only at hL_79
       subst hL_79
       try dsimp only at hR
       cases hR
      try dsimp only at hL_79
      obtain ⟨c99a, c99b, c99c, c99d⟩ := c99; try dsimp only at hL_79
      refine GX.callp (r := .tup [.agg [.int .u32 c99a.Own, .int .u32 c99a.Peer, .int .i64 c99a.Phase, .bool c99a.Leads, .int .u32 c99a.Seq, .ro 8 (c99a.Left.map THeader.c), .ro 8 (c99a.Got.map THeader.c), .int .i64 c99a.Last.MTU, .int .i64 c99a.Last.Options, .bool c99a.Last.Init, .bool c99a.Last.More, .bool c99a.Last.Master, .int .u32 c99a.Last.Seq, .ro 8 (c99a.Last.Heads.map THeader.c)], .agg [.int .i64 c99b.MTU, .int .i64 c99b.Options, .bool c99b.Init, .bool c99b.More, .bool c99b.Master, .int .u32 c99b.Seq, .ro 8 (c99b.Heads.map THeader.c)], .bool c99c, .int .i64 c99d]) rfl rfl rfl (f16_ok a3 x1043 _ hc99) rfl rfl ?_
      refine GX.m rfl ?_
      refine GX.q (.agg [.int .u32 c99a.Own, .int .u32 c99a.Peer, .int .i64 c99a.Phase, .bool c99a.Leads, .int .u32 c99a.Seq, .ro 8 (c99a.Left.map THeader.c), .ro 8 (c99a.Got.map THeader.c), .int .i64 c99a.Last.MTU, .int .i64 c99a.Last.Options, .bool c99a.Last.Init, .bool c99a.Last.More, .bool c99a.Last.Master, .int .u32 c99a.Last.Seq, .ro 8 (c99a.Last.Heads.map THeader.c)]) ?_
      refine GX.q (.agg [.int .i64 c99b.MTU, .int .i64 c99b.Options, .bool c99b.Init, .bool c99b.More, .bool c99b.Master, .int .u32 c99b.Seq, .ro 8 (c99b.Heads.map THeader.c)]) ?_
      refine GX.q (.bool c99c) ?_
      refine GX.q (.int .i64 c99d) ?_
      refine GX.step (v' := .ptr 8 0) (heap' := [(0, .box (TSession.c a3)), (1, .box (TSession.c b4)), (2, .box [.int .u32 0, .int .u32 0, .int .i64 0, .bool false, .int .u32 0, .nils, .nils, .int .i64 0, .int .i64 0, .bool false, .bool false, .bool false, .int .u32 0, .nils]), (3, .box [.int .u32 0, .int .u32 0, .int .i64 0, .bool false, .int .u32 0, .nils, .nils, .int .i64 0, .int .i64 0, .bool false, .bool false, .bool false, .int .u32 0, .nils]), (4, .row 7 34 (toB9.map TDesc.c)), (5, .box (TDesc.c x1043)), (7, .row 7 34 ((toA8.drop 1).map TDesc.c)), (8, .box [.int .u32 0, .int .u32 0, .int .i64 0, .bool false, .int .u32 0, .nils, .nils, .int .i64 0, .int .i64 0, .bool false, .bool false, .bool false, .int .u32 0, .nils])]) (next' := 9) rfl rfl rfl rfl rfl rfl rfl ?_
      refine GX.step (v' := .ptr 9 0) (heap' := [(0, .box (TSession.c a3)), (1, .box (TSession.c b4)), (2, .box [.int .u32 0, .int .u32 0, .int .i64 0, .bool false, .int .u32 0, .nils, .nils, .int .i64 0, .int .i64 0, .bool false, .bool false, .bool false, .int .u32 0, .nils]), (3, .box [.int .u32 0, .int .u32 0, .int .i64 0, .bool false, .int .u32 0, .nils, .nils, .int .i64 0, .int .i64 0, .bool false, .bool false, .bool false, .int .u32 0, .nils]), (4, .row 7 34 (toB9.map TDesc.c)), (5, .box (TDesc.c x1043)), (7, .row 7 34 ((toA8.drop 1).map TDesc.c)), (8, .box [.int .u32 0, .int .u32 0, .int .i64 0, .bool false, .int .u32 0, .nils, .nils, .int .i64 0, .int .i64 0, .bool false, .bool false, .bool false, .int .u32 0, .nils]), (9, .box [.int .i64 0, .int .i64 0, .bool false, .bool false, .bool false, .int .u32 0, .nils])]) (next' := 10) rfl rfl rfl rfl rfl rfl rfl ?_
      refine GX.step0 (heap' := [(0, .box (TSession.c a3)), (1, .box (TSession.c b4)), (2, .box [.int .u32 0, .int .u32 0, .int .i64 0, .bool false, .int .u32 0, .nils, .nils, .int .i64 0, .int .i64 0, .bool false, .bool false, .bool false, .int .u32 0, .nils]), (3, .box [.int .u32 0, .int .u32 0, .int .i64 0, .bool false, .int .u32 0, .nils, .nils, .int .i64 0, .int .i64 0, .bool false, .bool false, .bool false, .int .u32 0, .nils]), (4, .row 7 34 (toB9.map TDesc.c)), (5, .box (TDesc.c x1043)), (7, .row 7 34 ((toA8.drop 1).map TDesc.c)), (8, .box (TSession.c c99a)), (9, .box [.int .i64 0, .int .i64 0, .bool false, .bool false, .bool false, .int .u32 0, .nils])]) (next' := 10) rfl rfl rfl rfl rfl ?_
      refine GX.step0 (heap' := [(0, .box (TSession.c a3)), (1, .box (TSession.c b4)), (2, .box [.int .u32 0, .int .u32 0, .int .i64 0, .bool false, .int .u32 0, .nils, .nils, .int .i64 0, .int .i64 0, .bool false, .bool false, .bool false, .int .u32 0, .nils]), (3, .box [.int .u32 0, .int .u32 0, .int .i64 0, .bool false, .int .u32 0, .nils, .nils, .int .i64 0, .int .i64 0, .bool false, .bool false, .bool false, .int .u32 0, .nils]), (4, .row 7 34 (toB9.map TDesc.c)), (5, .box (TDesc.c x1043)), (7, .row 7 34 ((toA8.drop 1).map TDesc.c)), (8, .box (TSession.c c99a)), (9, .box (TDesc.c c99b))]) (next' := 10) rfl rfl rfl rfl rfl ?_
      iterate 2 refine GX.m rfl ?_
      refine GX.done ?_
      refine WK.sr mixed ?_
      refine GX.q (.agg (TSession.c c99a)) ?_
      refine GX.step0 (heap' := [(0, .box (TSession.c c99a)), (1, .box (TSession.c b4)), (2, .box [.int .u32 0, .int .u32 0, .int .i64 0, .bool false, .int .u32 0, .nils, .nils, .int .i64 0, .int .i64 0, .bool false, .bool false, .bool false, .int .u32 0, .nils]), (3, .box [.int .u32 0, .int .u32 0, .int .i64 0, .bool false, .int .u32 0, .nils, .nils, .int .i64 0, .int .i64 0, .bool false, .bool false, .bool false, .int .u32 0, .nils]), (4, .row 7 34 (toB9.map TDesc.c)), (5, .box (TDesc.c x1043)), (7, .row 7 34 ((toA8.drop 1).map TDesc.c)), (8, .box (TSession.c c99a)), (9, .box (TDesc.c c99b))]) (next' := 10) rfl rfl rfl rfl rfl ?_
      refine GX.done ?_
      refine WK.sr mixed ?_
      refine GX.m rfl ?_
      refine GX.done ?_
      rcases bool_two (c99c) with hb150 | hb150
      ·rw [hb150]; try simp only [hb150, bb] at hL_79
       refine WK.condF rfl ?_
       refine WK.skip ?_
       refine WK.sr mixed ?_
       refine GX.m rfl ?_
       refine GX.q (.bool (decide (x10 = 1))) ?_
       refine GX.m rfl ?_
       have hn151 : (decide (x10 = 1)) = false := decide_eq_false (by have h_ := of_decide_eq_true hb84; omega)
       rw [hn151]
       refine GX.m rfl ?_
       iterate 2 refine GX.q (.bool (decide (x10 = 3))) ?_
       refine GX.m rfl ?_
       have hn152 : (decide (x10 = 3)) = false := decide_eq_false (by have h_ := of_decide_eq_true hb84; omega)
       rw [hn152]
       refine GX.m rfl ?_
       iterate 2 refine GX.q (.bool (decide (x10 = 7))) ?_
       refine GX.m rfl ?_
       have hn153 : (decide (x10 = 7)) = false := decide_eq_false (by have h_ := of_decide_eq_true hb84; omega)
       rw [hn153]
       iterate 3 refine GX.skip rfl rfl ?_
       refine GX.q (.bool false) ?_
       refine GX.done ?_
       refine WK.condF rfl ?_
       refine WK.skip ?_
       refine WK.nil (QF.normal (hK81 _ ?_))
       refine WK.regx mixed ?_
       refine GX.m rfl ?_
       refine GX.pure (v' := .int .i64 ((i10 + 1 : Nat) : Int)) rfl rfl rfl rfl (congrArg (PVal.int .i64) (wrap_up hlt79 hlen_79)) ?_
       refine GX.m rfl ?_
       refine GX.done ?_
       refine WK.nil (QF.normal ?_)
       exact hagain_79 _ (fates2.length - (i10 + 1)) ⟨[(2, .ro 1 (fates2.map c_i64)), (3, .ptr 0 0), (4, .ptr 1 0), (6, .ptr 2 0), (7, .ptr 3 0), (8, .own 4 7 0 (toA8.drop 1).length), (9, .own 5 7 0 toB9.length), (10, .int .i64 ((i10 + 1) : Int))], [(0, .box (TSession.c c99a)), (1, .box (TSession.c b4)), (2, .box [.int .u32 0, .int .u32 0, .int .i64 0, .bool false, .int .u32 0, .nils, .nils, .int .i64 0, .int .i64 0, .bool false, .bool false, .bool false, .int .u32 0, .nils]), (3, .box [.int .u32 0, .int .u32 0, .int .i64 0, .bool false, .int .u32 0, .nils, .nils, .int .i64 0, .int .i64 0, .bool false, .bool false, .bool false, .int .u32 0, .nils]), (4, .row 7 34 ((toA8.drop 1).map TDesc.c)), (5, .row 7 34 (toB9.map TDesc.c))], 6⟩ (by omega) (Conv.keep [0, 1, 2, 3, 7, 4] [] [2, 3, 4, 6, 7, 8, 9, 10] rfl rfl (viewE_cons rfl rfl (viewE_cons rfl rfl (viewE_cons rfl rfl (viewE_cons rfl rfl (viewE_cons rfl rfl (viewE_cons rfl rfl (viewE_cons rfl rfl (viewE_cons rfl rfl viewE_nil)))))))) rfl rfl) ⟨i10 + 1, c99a, b4, (toA8.drop 1), toB9, (by omega), rfl, hL_79, rfl⟩
      ·rw [hb150]; try simp only [hb150, bb] at hL_79
       refine WK.condT rfl ?_
       refine WK.regx mixed ?_
       refine GX.m rfl ?_
       refine GX.q (.agg (TDesc.c c99b)) ?_
       refine GX.step (v' := .own 10 7 0 (([c99b] : List TDesc)).length) (heap' := [(0, .box (TSession.c c99a)), (1, .box (TSession.c b4)), (2, .box [.int .u32 0, .int .u32 0, .int .i64 0, .bool false, .int .u32 0, .nils, .nils, .int .i64 0, .int .i64 0, .bool false, .bool false, .bool false, .int .u32 0, .nils]), (3, .box [.int .u32 0, .int .u32 0, .int .i64 0, .bool false, .int .u32 0, .nils, .nils, .int .i64 0, .int .i64 0, .bool false, .bool false, .bool false, .int .u32 0, .nils]), (4, .row 7 34 (toB9.map TDesc.c)), (5, .box (TDesc.c x1043)), (7, .row 7 34 ((toA8.drop 1).map TDesc.c)), (8, .box (TSession.c c99a)), (9, .box (TDesc.c c99b)), (10, .row 7 34 (([c99b] : List TDesc).map TDesc.c))]) (next' := 11) rfl rfl rfl rfl rfl rfl rfl ?_
       rcases bool_two (decide (toB9.length < 1099511627776)) with hg154 | hg154
       ·simp only [hg154, bb] at hL_79
        try dsimp only at hL_79
        subst hL_79
        try dsimp only at hR
        cases hR
       simp only [hg154, bb] at hL_79
       have hg154_ := of_decide_eq_true hg154
       refine GX.appT (c := TDesc.c) (L := toB9) (X := ([c99b] : List TDesc)) (heap' := [(0, .box (TSession.c c99a)), (1, .box (TSession.c b4)), (2, .box [.int .u32 0, .int .u32 0, .int .i64 0, .bool false, .int .u32 0, .nils, .nils, .int .i64 0, .int .i64 0, .bool false, .bool false, .bool false, .int .u32 0, .nils]), (3, .box [.int .u32 0, .int .u32 0, .int .i64 0, .bool false, .int .u32 0, .nils, .nils, .int .i64 0, .int .i64 0, .bool false, .bool false, .bool false, .int .u32 0, .nils]), (5, .box (TDesc.c x1043)), (7, .row 7 34 ((toA8.drop 1).map TDesc.c)), (8, .box (TSession.c c99a)), (9, .box (TDesc.c c99b)), (10, .row 7 34 (([c99b] : List TDesc).map TDesc.c)), (11, .row 7 34 ((toB9 ++ ([c99b] : List TDesc)).map TDesc.c))]) (next' := 12) rfl rfl rfl rfl (elems_own rfl) (by ((try simp only [List.length_append, List.length_cons, List.length_nil, List.length_map, decide_eq_true_eq, decide_eq_false_iff_not] at *) <;> omega)) (by ((try simp only [List.length_append, List.length_cons, List.length_nil, List.length_map, decide_eq_true_eq, decide_eq_false_iff_not] at *) <;> omega)) rfl rfl rfl rfl ?_
       refine GX.m rfl ?_
       refine GX.done ?_
       refine WK.sr mixed ?_
       refine GX.m rfl ?_
       refine GX.q (.bool (decide (x10 = 1))) ?_
       refine GX.m rfl ?_
       have hn155 : (decide (x10 = 1)) = false := decide_eq_false (by have h_ := of_decide_eq_true hb84; omega)
       rw [hn155]
       refine GX.m rfl ?_
       iterate 2 refine GX.q (.bool (decide (x10 = 3))) ?_
       refine GX.m rfl ?_
       have hn156 : (decide (x10 = 3)) = false := decide_eq_false (by have h_ := of_decide_eq_true hb84; omega)
       rw [hn156]
       refine GX.m rfl ?_
       iterate 2 refine GX.q (.bool (decide (x10 = 7))) ?_
       refine GX.m rfl ?_
       have hn157 : (decide (x10 = 7)) = false := decide_eq_false (by have h_ := of_decide_eq_true hb84; omega)
       rw [hn157]
       iterate 3 refine GX.skip rfl rfl ?_
       refine GX.q (.bool false) ?_
       refine GX.done ?_
       refine WK.condF rfl ?_
       refine WK.skip ?_
       refine WK.nil (QF.normal (hK81 _ ?_))
       refine WK.regx mixed ?_
       refine GX.m rfl ?_
       refine GX.pure (v' := .int .i64 ((i10 + 1 : Nat) : Int)) rfl rfl rfl rfl (congrArg (PVal.int .i64) (wrap_up hlt79 hlen_79)) ?_
       refine GX.m rfl ?_
       refine GX.done ?_
       refine WK.nil (QF.normal ?_)
       exact hagain_79 _ (fates2.length - (i10 + 1)) ⟨[(2, .ro 1 (fates2.map c_i64)), (3, .ptr 0 0), (4, .ptr 1 0), (6, .ptr 2 0), (7, .ptr 3 0), (8, .own 4 7 0 (toA8.drop 1).length), (9, .own 5 7 0 (toB9 ++ ([c99b] : List TDesc)).length), (10, .int .i64 ((i10 + 1) : Int))], [(0, .box (TSession.c c99a)), (1, .box (TSession.c b4)), (2, .box [.int .u32 0, .int .u32 0, .int .i64 0, .bool false, .int .u32 0, .nils, .nils, .int .i64 0, .int .i64 0, .bool false, .bool false, .bool false, .int .u32 0, .nils]), (3, .box [.int .u32 0, .int .u32 0, .int .i64 0, .bool false, .int .u32 0, .nils, .nils, .int .i64 0, .int .i64 0, .bool false, .bool false, .bool false, .int .u32 0, .nils]), (4, .row 7 34 ((toA8.drop 1).map TDesc.c)), (5, .row 7 34 ((toB9 ++ ([c99b] : List TDesc)).map TDesc.c))], 6⟩ (by omega) (Conv.keep [0, 1, 2, 3, 7, 11] [] [2, 3, 4, 6, 7, 8, 9, 10] rfl rfl (viewE_cons rfl rfl (viewE_cons rfl rfl (viewE_cons rfl rfl (viewE_cons rfl rfl (viewE_cons rfl rfl (viewE_cons rfl rfl (viewE_cons rfl rfl (viewE_cons rfl rfl viewE_nil)))))))) rfl rfl) ⟨i10 + 1, c99a, b4, (toA8.drop 1), (toB9 ++ ([c99b] : List TDesc)), (by omega), rfl, hL_79, rfl⟩
   ·rw [hb83]; try simp only [hb83, bb] at hL_79
    refine WK.condT rfl ?_
    refine WK.sr mixed ?_
    refine GX.q (.agg (TSession.c b4)) ?_
    generalize hc58 : F18_crossroadsref17_Again b4 = c58 at hL_79
    obtain ⟨c58a, c58b⟩ := c58; try dsimp only at hL_79
    refine GX.callp (r := .tup [.agg [.int .i64 c58a.MTU, .int .i64 c58a.Options, .bool c58a.Init, .bool c58a.More, .bool c58a.Master, .int .u32 c58a.Seq, .ro 8 (c58a.Heads.map THeader.c)], .bool c58b]) rfl rfl rfl (f18_ok b4 _ hc58) rfl rfl ?_
    refine GX.m rfl ?_
    refine GX.q (.agg [.int .i64 c58a.MTU, .int .i64 c58a.Options, .bool c58a.Init, .bool c58a.More, .bool c58a.Master, .int .u32 c58a.Seq, .ro 8 (c58a.Heads.map THeader.c)]) ?_
    refine GX.q (.bool c58b) ?_
    refine GX.step (v' := .ptr 6 0) (heap' := [(0, .box (TSession.c a3)), (1, .box (TSession.c b4)), (2, .box [.int .u32 0, .int .u32 0, .int .i64 0, .bool false, .int .u32 0, .nils, .nils, .int .i64 0, .int .i64 0, .bool false, .bool false, .bool false, .int .u32 0, .nils]), (3, .box [.int .u32 0, .int .u32 0, .int .i64 0, .bool false, .int .u32 0, .nils, .nils, .int .i64 0, .int .i64 0, .bool false, .bool false, .bool false, .int .u32 0, .nils]), (4, .row 7 34 (toA8.map TDesc.c)), (5, .row 7 34 (toB9.map TDesc.c)), (6, .box [.int .i64 0, .int .i64 0, .bool false, .bool false, .bool false, .int .u32 0, .nils])]) (next' := 7) rfl rfl rfl rfl rfl rfl rfl ?_
    refine GX.step0 (heap' := [(0, .box (TSession.c a3)), (1, .box (TSession.c b4)), (2, .box [.int .u32 0, .int .u32 0, .int .i64 0, .bool false, .int .u32 0, .nils, .nils, .int .i64 0, .int .i64 0, .bool false, .bool false, .bool false, .int .u32 0, .nils]), (3, .box [.int .u32 0, .int .u32 0, .int .i64 0, .bool false, .int .u32 0, .nils, .nils, .int .i64 0, .int .i64 0, .bool false, .bool false, .bool false, .int .u32 0, .nils]), (4, .row 7 34 (toA8.map TDesc.c)), (5, .row 7 34 (toB9.map TDesc.c)), (6, .box (TDesc.c c58a))]) (next' := 7) rfl rfl rfl rfl rfl ?_
    refine GX.m rfl ?_
    refine GX.done ?_
    refine WK.sr mixed ?_
    refine GX.m rfl ?_
    refine GX.done ?_
    rcases bool_two (c58b) with hb158 | hb158
    ·rw [hb158]; try simp only [hb158, bb] at hL_79
     refine WK.condF rfl ?_
     refine WK.skip ?_
     refine WK.seq ?_
     refine WK.sr mixed ?_
     refine GX.m rfl ?_
     refine GX.q (.bool (decide (x10 = 0))) ?_
     refine GX.m rfl ?_
     have hn159 : (decide (x10 = 0)) = false := decide_eq_false (by have h_ := of_decide_eq_true hb83; omega)
     rw [hn159]
     refine GX.m rfl ?_
     iterate 2 refine GX.q (.bool (decide (x10 = 2))) ?_
     refine GX.m rfl ?_
     have hn160 : (decide (x10 = 2)) = false := decide_eq_false (by have h_ := of_decide_eq_true hb83; omega)
     rw [hn160]
     refine GX.m rfl ?_
     iterate 2 refine GX.q (.bool (decide (x10 = 6))) ?_
     refine GX.m rfl ?_
     have hn161 : (decide (x10 = 6)) = false := decide_eq_false (by have h_ := of_decide_eq_true hb83; omega)
     rw [hn161]
     iterate 3 refine GX.skip rfl rfl ?_
     refine GX.q (.bool false) ?_
     refine GX.done ?_
     refine WK.condF rfl ?_
     refine WK.skip ?_
     refine WK.sr mixed ?_
     refine GX.m rfl ?_
     refine GX.q (.bool (decide (x10 = 1))) ?_
     refine GX.m rfl ?_
     have hn162 : (decide (x10 = 1)) = false := decide_eq_false (by have h_ := of_decide_eq_true hb83; omega)
     rw [hn162]
     refine GX.m rfl ?_
     iterate 2 refine GX.q (.bool (decide (x10 = 3))) ?_
     refine GX.m rfl ?_
     have hn163 : (decide (x10 = 3)) = false := decide_eq_false (by have h_ := of_decide_eq_true hb83; omega)
     rw [hn163]
     refine GX.m rfl ?_
     iterate 2 refine GX.q (.bool (decide (x10 = 7))) ?_
     refine GX.m rfl ?_
     have hn164 : (decide (x10 = 7)) = false := decide_eq_false (by have h_ := of_decide_eq_true hb83; omega)
     rw [hn164]
     iterate 3 refine GX.skip rfl rfl ?_
     refine GX.q (.bool false) ?_
     refine GX.done ?_
     refine WK.condF rfl ?_
     refine WK.skip ?_
     refine WK.nil (QF.normal (hK81 _ ?_))
     refine WK.regx mixed ?_
     refine GX.m rfl ?_
     refine GX.pure (v' := .int .i64 ((i10 + 1 : Nat) : Int)) rfl rfl rfl rfl (congrArg (PVal.int .i64) (wrap_up hlt79 hlen_79)) ?_
     refine GX.m rfl ?_
     refine GX.done ?_
     refine WK.nil (QF.normal ?_)
     exact hagain_79 _ (fates2.length - (i10 + 1)) ⟨[(2, .ro 1 (fates2.map c_i64)), (3, .ptr 0 0), (4, .ptr 1 0), (6, .ptr 2 0), (7, .ptr 3 0), (8, .own 4 7 0 toA8.length), (9, .own 5 7 0 toB9.length), (10, .int .i64 ((i10 + 1) : Int))], [(0, .box (TSession.c a3)), (1, .box (TSession.c b4)), (2, .box [.int .u32 0, .int .u32 0, .int .i64 0, .bool false, .int .u32 0, .nils, .nils, .int .i64 0, .int .i64 0, .bool false, .bool false, .bool false, .int .u32 0, .nils]), (3, .box [.int .u32 0, .int .u32 0, .int .i64 0, .bool false, .int .u32 0, .nils, .nils, .int .i64 0, .int .i64 0, .bool false, .bool false, .bool false, .int .u32 0, .nils]), (4, .row 7 34 (toA8.map TDesc.c)), (5, .row 7 34 (toB9.map TDesc.c))], 6⟩ (by omega) (Conv.keep [0, 1, 2, 3, 4, 5] [] [2, 3, 4, 6, 7, 8, 9, 10] rfl rfl (viewE_cons rfl rfl (viewE_cons rfl rfl (viewE_cons rfl rfl (viewE_cons rfl rfl (viewE_cons rfl rfl (viewE_cons rfl rfl (viewE_cons rfl rfl (viewE_cons rfl rfl viewE_nil)))))))) rfl rfl) ⟨i10 + 1, a3, b4, toA8, toB9, (by omega), rfl, hL_79, rfl⟩
    ·rw [hb158]; try simp only [hb158, bb] at hL_79
     refine WK.condT rfl ?_
     refine WK.regx mixed ?_
     refine GX.m rfl ?_
     refine GX.q (.agg (TDesc.c c58a)) ?_
     refine GX.step (v' := .own 7 7 0 (([c58a] : List TDesc)).length) (heap' := [(0, .box (TSession.c a3)), (1, .box (TSession.c b4)), (2, .box [.int .u32 0, .int .u32 0, .int .i64 0, .bool false, .int .u32 0, .nils, .nils, .int .i64 0, .int .i64 0, .bool false, .bool false, .bool false, .int .u32 0, .nils]), (3, .box [.int .u32 0, .int .u32 0, .int .i64 0, .bool false, .int .u32 0, .nils, .nils, .int .i64 0, .int .i64 0, .bool false, .bool false, .bool false, .int .u32 0, .nils]), (4, .row 7 34 (toA8.map TDesc.c)), (5, .row 7 34 (toB9.map TDesc.c)), (6, .box (TDesc.c c58a)), (7, .row 7 34 (([c58a] : List TDesc).map TDesc.c))]) (next' := 8) rfl rfl rfl rfl rfl rfl rfl ?_
     rcases bool_two (decide (toA8.length < 1099511627776)) with hg165 | hg165
     ·simp only [hg165, bb] at hL_79
      try dsimp only at hL_79
      subst hL_79
      try dsimp only at hR
      cases hR
     simp only [hg165, bb] at hL_79
     have hg165_ := of_decide_eq_true hg165
     refine GX.appT (c := TDesc.c) (L := toA8) (X := ([c58a] : List TDesc)) (heap' := [(0, .box (TSession.c a3)), (1, .box (TSession.c b4)), (2, .box [.int .u32 0, .int .u32 0, .int .i64 0, .bool false, .int .u32 0, .nils, .nils, .int .i64 0, .int .i64 0, .bool false, .bool false, .bool false, .int .u32 0, .nils]), (3, .box [.int .u32 0, .int .u32 0, .int .i64 0, .bool false, .int .u32 0, .nils, .nils, .int .i64 0, .int .i64 0, .bool false, .bool false, .bool false, .int .u32 0, .nils]), (5, .row 7 34 (toB9.map TDesc.c)), (6, .box (TDesc.c c58a)), (7, .row 7 34 (([c58a] : List TDesc).map TDesc.c)), (8, .row 7 34 ((toA8 ++ ([c58a] : List TDesc)).map TDesc.c))]) (next' := 9) rfl rfl rfl rfl (elems_own rfl) (by ((try simp only [List.length_append, List.length_cons, List.length_nil, List.length_map, decide_eq_true_eq, decide_eq_false_iff_not] at *) <;> omega)) (by ((try simp only [List.length_append, List.length_cons, List.length_nil, List.length_map, decide_eq_true_eq, decide_eq_false_iff_not] at *) <;> omega)) rfl rfl rfl rfl ?_
     refine GX.m rfl ?_
     refine GX.done ?_
     refine WK.seq ?_
     refine WK.sr mixed ?_
     refine GX.m rfl ?_
     refine GX.q (.bool (decide (x10 = 0))) ?_
     refine GX.m rfl ?_
     have hn166 : (decide (x10 = 0)) = false := decide_eq_false (by have h_ := of_decide_eq_true hb83; omega)
     rw [hn166]
     refine GX.m rfl ?_
     iterate 2 refine GX.q (.bool (decide (x10 = 2))) ?_
     refine GX.m rfl ?_
     have hn167 : (decide (x10 = 2)) = false := decide_eq_false (by have h_ := of_decide_eq_true hb83; omega)
     rw [hn167]
     refine GX.m rfl ?_
     iterate 2 refine GX.q (.bool (decide (x10 = 6))) ?_
     refine GX.m rfl ?_
     have hn168 : (decide (x10 = 6)) = false := decide_eq_false (by have h_ := of_decide_eq_true hb83; omega)
     rw [hn168]
     iterate 3 refine GX.skip rfl rfl ?_
     refine GX.q (.bool false) ?_
     refine GX.done ?_
     refine WK.condF rfl ?_
     refine WK.skip ?_
     refine WK.sr mixed ?_
     refine GX.m rfl ?_
     refine GX.q (.bool (decide (x10 = 1))) ?_
     refine GX.m rfl ?_
     have hn169 : (decide (x10 = 1)) = false := decide_eq_false (by have h_ := of_decide_eq_true hb83; omega)
     rw [hn169]
     refine GX.m rfl ?_
     iterate 2 refine GX.q (.bool (decide (x10 = 3))) ?_
     refine GX.m rfl ?_
     have hn170 : (decide (x10 = 3)) = false := decide_eq_false (by have h_ := of_decide_eq_true hb83; omega)
     rw [hn170]
     refine GX.m rfl ?_
     iterate 2 refine GX.q (.bool (decide (x10 = 7))) ?_
     refine GX.m rfl ?_
     have hn171 : (decide (x10 = 7)) = false := decide_eq_false (by have h_ := of_decide_eq_true hb83; omega)
     rw [hn171]
     iterate 3 refine GX.skip rfl rfl ?_
     refine GX.q (.bool false) ?_
     refine GX.done ?_
     refine WK.condF rfl ?_
     refine WK.skip ?_
     refine WK.nil (QF.normal (hK81 _ ?_))
     refine WK.regx mixed ?_
     refine GX.m rfl ?_
     refine GX.pure (v' := .int .i64 ((i10 + 1 : Nat) : Int)) rfl rfl rfl rfl (congrArg (PVal.int .i64) (wrap_up hlt79 hlen_79)) ?_
     refine GX.m rfl ?_
     refine GX.done ?_
     refine WK.nil (QF.normal ?_)
     exact hagain_79 _ (fates2.length - (i10 + 1)) ⟨[(2, .ro 1 (fates2.map c_i64)), (3, .ptr 0 0), (4, .ptr 1 0), (6, .ptr 2 0), (7, .ptr 3 0), (8, .own 4 7 0 (toA8 ++ ([c58a] : List TDesc)).length), (9, .own 5 7 0 toB9.length), (10, .int .i64 ((i10 + 1) : Int))], [(0, .box (TSession.c a3)), (1, .box (TSession.c b4)), (2, .box [.int .u32 0, .int .u32 0, .int .i64 0, .bool false, .int .u32 0, .nils, .nils, .int .i64 0, .int .i64 0, .bool false, .bool false, .bool false, .int .u32 0, .nils]), (3, .box [.int .u32 0, .int .u32 0, .int .i64 0, .bool false, .int .u32 0, .nils, .nils, .int .i64 0, .int .i64 0, .bool false, .bool false, .bool false, .int .u32 0, .nils]), (4, .row 7 34 ((toA8 ++ ([c58a] : List TDesc)).map TDesc.c)), (5, .row 7 34 (toB9.map TDesc.c))], 6⟩ (by omega) (Conv.keep [0, 1, 2, 3, 8, 5] [] [2, 3, 4, 6, 7, 8, 9, 10] rfl rfl (viewE_cons rfl rfl (viewE_cons rfl rfl (viewE_cons rfl rfl (viewE_cons rfl rfl (viewE_cons rfl rfl (viewE_cons rfl rfl (viewE_cons rfl rfl (viewE_cons rfl rfl viewE_nil)))))))) rfl rfl) ⟨i10 + 1, a3, b4, (toA8 ++ ([c58a] : List TDesc)), toB9, (by omega), rfl, hL_79, rfl⟩
  ·rw [hb82]; try simp only [hb82, bb] at hL_79
   refine WK.condT rfl ?_
   refine WK.sr mixed ?_
   refine GX.q (.agg (TSession.c a3)) ?_
   generalize hc46 : F18_crossroadsref17_Again a3 = c46 at hL_79
   obtain ⟨c46a, c46b⟩ := c46; try dsimp only at hL_79
   refine GX.callp (r := .tup [.agg [.int .i64 c46a.MTU, .int .i64 c46a.Options, .bool c46a.Init, .bool c46a.More, .bool c46a.Master, .int .u32 c46a.Seq, .ro 8 (c46a.Heads.map THeader.c)], .bool c46b]) rfl rfl rfl (f18_ok a3 _ hc46) rfl rfl ?_
   refine GX.m rfl ?_
   refine GX.q (.agg [.int .i64 c46a.MTU, .int .i64 c46a.Options, .bool c46a.Init, .bool c46a.More, .bool c46a.Master, .int .u32 c46a.Seq, .ro 8 (c46a.Heads.map THeader.c)]) ?_
   refine GX.q (.bool c46b) ?_
   refine GX.step (v' := .ptr 6 0) (heap' := [(0, .box (TSession.c a3)), (1, .box (TSession.c b4)), (2, .box [.int .u32 0, .int .u32 0, .int .i64 0, .bool false, .int .u32 0, .nils, .nils, .int .i64 0, .int .i64 0, .bool false, .bool false, .bool false, .int .u32 0, .nils]), (3, .box [.int .u32 0, .int .u32 0, .int .i64 0, .bool false, .int .u32 0, .nils, .nils, .int .i64 0, .int .i64 0, .bool false, .bool false, .bool false, .int .u32 0, .nils]), (4, .row 7 34 (toA8.map TDesc.c)), (5, .row 7 34 (toB9.map TDesc.c)), (6, .box [.int .i64 0, .int .i64 0, .bool false, .bool false, .bool false, .int .u32 0, .nils])]) (next' := 7) rfl rfl rfl rfl rfl rfl rfl ?_
   refine GX.step0 (heap' := [(0, .box (TSession.c a3)), (1, .box (TSession.c b4)), (2, .box [.int .u32 0, .int .u32 0, .int .i64 0, .bool false, .int .u32 0, .nils, .nils, .int .i64 0, .int .i64 0, .bool false, .bool false, .bool false, .int .u32 0, .nils]), (3, .box [.int .u32 0, .int .u32 0, .int .i64 0, .bool false, .int .u32 0, .nils, .nils, .int .i64 0, .int .i64 0, .bool false, .bool false, .bool false, .int .u32 0, .nils]), (4, .row 7 34 (toA8.map TDesc.c)), (5, .row 7 34 (toB9.map TDesc.c)), (6, .box (TDesc.c c46a))]) (next' := 7) rfl rfl rfl rfl rfl ?_
   refine GX.m rfl ?_
   refine GX.done ?_
   refine WK.sr mixed ?_
   refine GX.m rfl ?_
   refine GX.done ?_
   rcases bool_two (c46b) with hb172 | hb172
   ·rw [hb172]; try simp only [hb172, bb] at hL_79
    refine WK.condF rfl ?_
    refine WK.skip ?_
    refine WK.seq ?_
    refine WK.sr mixed ?_
    refine GX.m rfl ?_
    refine GX.q (.bool (decide (x10 = 5))) ?_
    refine GX.done ?_
    have hn173 : (decide (x10 = 5)) = false := decide_eq_false (by have h_ := of_decide_eq_true hb82; omega)
    rw [hn173]
    refine WK.condF rfl ?_
    refine WK.skip ?_
    refine WK.seq ?_
    refine WK.sr mixed ?_
    refine GX.m rfl ?_
    refine GX.q (.bool (decide (x10 = 0))) ?_
    refine GX.m rfl ?_
    have hn174 : (decide (x10 = 0)) = false := decide_eq_false (by have h_ := of_decide_eq_true hb82; omega)
    rw [hn174]
    refine GX.m rfl ?_
    iterate 2 refine GX.q (.bool (decide (x10 = 2))) ?_
    refine GX.m rfl ?_
    have hn175 : (decide (x10 = 2)) = false := decide_eq_false (by have h_ := of_decide_eq_true hb82; omega)
    rw [hn175]
    refine GX.m rfl ?_
    iterate 2 refine GX.q (.bool (decide (x10 = 6))) ?_
    refine GX.m rfl ?_
    have hn176 : (decide (x10 = 6)) = false := decide_eq_false (by have h_ := of_decide_eq_true hb82; omega)
    rw [hn176]
    iterate 3 refine GX.skip rfl rfl ?_
    refine GX.q (.bool false) ?_
    refine GX.done ?_
    refine WK.condF rfl ?_
    refine WK.skip ?_
    refine WK.sr mixed ?_
    refine GX.m rfl ?_
    refine GX.q (.bool (decide (x10 = 1))) ?_
    refine GX.m rfl ?_
    have hn177 : (decide (x10 = 1)) = false := decide_eq_false (by have h_ := of_decide_eq_true hb82; omega)
    rw [hn177]
    refine GX.m rfl ?_
    iterate 2 refine GX.q (.bool (decide (x10 = 3))) ?_
    refine GX.m rfl ?_
    have hn178 : (decide (x10 = 3)) = false := decide_eq_false (by have h_ := of_decide_eq_true hb82; omega)
    rw [hn178]
    refine GX.m rfl ?_
    iterate 2 refine GX.q (.bool (decide (x10 = 7))) ?_
    refine GX.m rfl ?_
    have hn179 : (decide (x10 = 7)) = false := decide_eq_false (by have h_ := of_decide_eq_true hb82; omega)
    rw [hn179]
    iterate 3 refine GX.skip rfl rfl ?_
    refine GX.q (.bool false) ?_
    refine GX.done ?_
    refine WK.condF rfl ?_
    refine WK.skip ?_
    refine WK.nil (QF.normal (hK81 _ ?_))
    refine WK.regx mixed ?_
    refine GX.m rfl ?_
    refine GX.pure (v' := .int .i64 ((i10 + 1 : Nat) : Int)) rfl rfl rfl rfl (congrArg (PVal.int .i64) (wrap_up hlt79 hlen_79)) ?_
    refine GX.m rfl ?_
    refine GX.done ?_
    refine WK.nil (QF.normal ?_)
    exact hagain_79 _ (fates2.length - (i10 + 1)) ⟨[(2, .ro 1 (fates2.map c_i64)), (3, .ptr 0 0), (4, .ptr 1 0), (6, .ptr 2 0), (7, .ptr 3 0), (8, .own 4 7 0 toA8.length), (9, .own 5 7 0 toB9.length), (10, .int .i64 ((i10 + 1) : Int))], [(0, .box (TSession.c a3)), (1, .box (TSession.c b4)), (2, .box [.int .u32 0, .int .u32 0, .int .i64 0, .bool false, .int .u32 0, .nils, .nils, .int .i64 0, .int .i64 0, .bool false, .bool false, .bool false, .int .u32 0, .nils]), (3, .box [.int .u32 0, .int .u32 0, .int .i64 0, .bool false, .int .u32 0, .nils, .nils, .int .i64 0, .int .i64 0, .bool false, .bool false, .bool false, .int .u32 0, .nils]), (4, .row 7 34 (toA8.map TDesc.c)), (5, .row 7 34 (toB9.map TDesc.c))], 6⟩ (by omega) (Conv.keep [0, 1, 2, 3, 4, 5] [] [2, 3, 4, 6, 7, 8, 9, 10] rfl rfl (viewE_cons rfl rfl (viewE_cons rfl rfl (viewE_cons rfl rfl (viewE_cons rfl rfl (viewE_cons rfl rfl (viewE_cons rfl rfl (viewE_cons rfl rfl (viewE_cons rfl rfl viewE_nil)))))))) rfl rfl) ⟨i10 + 1, a3, b4, toA8, toB9, (by omega), rfl, hL_79, rfl⟩
   ·rw [hb172]; try simp only [hb172, bb] at hL_79
    refine WK.condT rfl ?_
    refine WK.regx mixed ?_
    refine GX.m rfl ?_
    refine GX.q (.agg (TDesc.c c46a)) ?_
    refine GX.step (v' := .own 7 7 0 (([c46a] : List TDesc)).length) (heap' := [(0, .box (TSession.c a3)), (1, .box (TSession.c b4)), (2, .box [.int .u32 0, .int .u32 0, .int .i64 0, .bool false, .int .u32 0, .nils, .nils, .int .i64 0, .int .i64 0, .bool false, .bool false, .bool false, .int .u32 0, .nils]), (3, .box [.int .u32 0, .int .u32 0, .int .i64 0, .bool false, .int .u32 0, .nils, .nils, .int .i64 0, .int .i64 0, .bool false, .bool false, .bool false, .int .u32 0, .nils]), (4, .row 7 34 (toA8.map TDesc.c)), (5, .row 7 34 (toB9.map TDesc.c)), (6, .box (TDesc.c c46a)), (7, .row 7 34 (([c46a] : List TDesc).map TDesc.c))]) (next' := 8) rfl rfl rfl rfl rfl rfl rfl ?_
    rcases bool_two (decide (toB9.length < 1099511627776)) with hg180 | hg180
    ·simp only [hg180, bb] at hL_79
     try dsimp only at hL_79
     subst hL_79
     try dsimp only at hR
     cases hR
    simp only [hg180, bb] at hL_79
    have hg180_ := of_decide_eq_true hg180
    refine GX.appT (c := TDesc.c) (L := toB9) (X := ([c46a] : List TDesc)) (heap' := [(0, .box (TSession.c a3)), (1, .box (TSession.c b4)), (2, .box [.int .u32 0, .int .u32 0, .int .i64 0, .bool false, .int .u32 0, .nils, .nils, .int .i64 0, .int .i64 0, .bool false, .bool false, .bool false, .int .u32 0, .nils]), (3, .box [.int .u32 0, .int .u32 0, .int .i64 0, .bool false, .int .u32 0, .nils, .nils, .int .i64 0, .int .i64 0, .bool false, .bool false, .bool false, .int .u32 0, .nils]), (4, .row 7 34 (toA8.map TDesc.c)), (6, .box (TDesc.c c46a)), (7, .row 7 34 (([c46a] : List TDesc).map TDesc.c)), (8, .row 7 34 ((toB9 ++ ([c46a] : List TDesc)).map TDesc.c))]) (next' := 9) rfl rfl rfl rfl (elems_own rfl) (by ((try simp only [List.length_append, List.length_cons, List.length_nil, List.length_map, decide_eq_true_eq, decide_eq_false_iff_not] at *) <;> omega)) (by ((try simp only [List.length_append, List.length_cons, List.length_nil, List.length_map, decide_eq_true_eq, decide_eq_false_iff_not] at *) <;> omega)) rfl rfl rfl rfl ?_
    refine GX.m rfl ?_
    refine GX.done ?_
    refine WK.seq ?_
    refine WK.sr mixed ?_
    refine GX.m rfl ?_
    refine GX.q (.bool (decide (x10 = 5))) ?_
    refine GX.done ?_
    have hn181 : (decide (x10 = 5)) = false := decide_eq_false (by have h_ := of_decide_eq_true hb82; omega)
    rw [hn181]
    refine WK.condF rfl ?_
    refine WK.skip ?_
    refine WK.seq ?_
    refine WK.sr mixed ?_
    refine GX.m rfl ?_
    refine GX.q (.bool (decide (x10 = 0))) ?_
    refine GX.m rfl ?_
    have hn182 : (decide (x10 = 0)) = false := decide_eq_false (by have h_ := of_decide_eq_true hb82; omega)
    rw [hn182]
    refine GX.m rfl ?_
    iterate 2 refine GX.q (.bool (decide (x10 = 2))) ?_
    refine GX.m rfl ?_
    have hn183 : (decide (x10 = 2)) = false := decide_eq_false (by have h_ := of_decide_eq_true hb82; omega)
    rw [hn183]
    refine GX.m rfl ?_
    iterate 2 refine GX.q (.bool (decide (x10 = 6))) ?_
    refine GX.m rfl ?_
    have hn184 : (decide (x10 = 6)) = false := decide_eq_false (by have h_ := of_decide_eq_true hb82; omega)
    rw [hn184]
    iterate 3 refine GX.skip rfl rfl ?_
    refine GX.q (.bool false) ?_
    refine GX.done ?_
    refine WK.condF rfl ?_
    refine WK.skip ?_
    refine WK.sr mixed ?_
    refine GX.m rfl ?_
    refine GX.q (.bool (decide (x10 = 1))) ?_
    refine GX.m rfl ?_
    have hn185 : (decide (x10 = 1)) = false := decide_eq_false (by have h_ := of_decide_eq_true hb82; omega)
    rw [hn185]
    refine GX.m rfl ?_
    iterate 2 refine GX.q (.bool (decide (x10 = 3))) ?_
    refine GX.m rfl ?_
    have hn186 : (decide (x10 = 3)) = false := decide_eq_false (by have h_ := of_decide_eq_true hb82; omega)
    rw [hn186]
    refine GX.m rfl ?_
    iterate 2 refine GX.q (.bool (decide (x10 = 7))) ?_
    refine GX.m rfl ?_
    have hn187 : (decide (x10 = 7)) = false := decide_eq_false (by have h_ := of_decide_eq_true hb82; omega)
    rw [hn187]
    iterate 3 refine GX.skip rfl rfl ?_
    refine GX.q (.bool false) ?_
    refine GX.done ?_
    refine WK.condF rfl ?_
    refine WK.skip ?_
    refine WK.nil (QF.normal (hK81 _ ?_))
    refine WK.regx mixed ?_
    refine GX.m rfl ?_
    refine GX.pure (v' := .int .i64 ((i10 + 1 : Nat) : Int)) rfl rfl rfl rfl (congrArg (PVal.int .i64) (wrap_up hlt79 hlen_79)) ?_
    refine GX.m rfl ?_
    refine GX.done ?_
    refine WK.nil (QF.normal ?_)
    exact hagain_79 _ (fates2.length - (i10 + 1)) ⟨[(2, .ro 1 (fates2.map c_i64)), (3, .ptr 0 0), (4, .ptr 1 0), (6, .ptr 2 0), (7, .ptr 3 0), (8, .own 4 7 0 toA8.length), (9, .own 5 7 0 (toB9 ++ ([c46a] : List TDesc)).length), (10, .int .i64 ((i10 + 1) : Int))], [(0, .box (TSession.c a3)), (1, .box (TSession.c b4)), (2, .box [.int .u32 0, .int .u32 0, .int .i64 0, .bool false, .int .u32 0, .nils, .nils, .int .i64 0, .int .i64 0, .bool false, .bool false, .bool false, .int .u32 0, .nils]), (3, .box [.int .u32 0, .int .u32 0, .int .i64 0, .bool false, .int .u32 0, .nils, .nils, .int .i64 0, .int .i64 0, .bool false, .bool false, .bool false, .int .u32 0, .nils]), (4, .row 7 34 (toA8.map TDesc.c)), (5, .row 7 34 ((toB9 ++ ([c46a] : List TDesc)).map TDesc.c))], 6⟩ (by omega) (Conv.keep [0, 1, 2, 3, 4, 8] [] [2, 3, 4, 6, 7, 8, 9, 10] rfl rfl (viewE_cons rfl rfl (viewE_cons rfl rfl (viewE_cons rfl rfl (viewE_cons rfl rfl (viewE_cons rfl rfl (viewE_cons rfl rfl (viewE_cons rfl rfl (viewE_cons rfl rfl viewE_nil)))))))) rfl rfl) ⟨i10 + 1, a3, b4, toA8, (toB9 ++ ([c46a] : List TDesc)), (by omega), rfl, hL_79, rfl⟩

theorem f4_ok (a0 : TStart) (b1 : TStart) (fates2 : List Int) (R : Bool) (hR : F4_crossroadslaw17_ExchRun a0 b1 fates2 = some R) : FnOk Try.prog 4 [.agg (TStart.c a0), .agg (TStart.c b1), .ro 1 (fates2.map c_i64)] [] 0 (.bool R) [] 0 := by
 refine FnOk.wk i4 rfl rfl ?_
 unfold F4_crossroadslaw17_ExchRun at hR
 try dsimp only at hR
 change WK _ _ _ [ac4] _ ⟨[(0, .agg (TStart.c a0)), (1, .agg (TStart.c b1)), (2, .ro 1 (fates2.map c_i64))], [], 0⟩
 unfold ac4
 refine WK.sr mixed ?_
 refine GX.step (v' := .ptr 0 0) (heap' := [(0, .box (TStart.c a0))]) (next' := 1) rfl rfl rfl rfl rfl rfl rfl ?_
 refine GX.step (v' := .ptr 1 0) (heap' := [(0, .box (TStart.c a0)), (1, .box (TStart.c b1))]) (next' := 2) rfl rfl rfl rfl rfl rfl rfl ?_
 refine GX.m rfl ?_
 refine GX.done ?_
 refine WK.seq ?_
 refine WK.sr mixed ?_
 refine GX.q (.ptr 0 3) ?_
 refine GX.q (.ro 8 (a0.Heads.map THeader.c)) ?_
 refine GX.pure (v' := .int .i64 (a0.Heads.length : Int)) rfl rfl rfl rfl (len_map _ _) ?_
 refine GX.q (.bool (decide (120 < (a0.Heads.length : Int)))) ?_
 refine GX.m rfl ?_
 rcases bool_two (decide (120 < (a0.Heads.length : Int))) with hb1 | hb1
 ·rw [hb1]; first | replace hR := cond_f hb1 hR | (try simp only [hb1, bb] at hR)
  refine GX.q (.ptr 1 3) ?_
  refine GX.q (.ro 8 (b1.Heads.map THeader.c)) ?_
  refine GX.pure (v' := .int .i64 (b1.Heads.length : Int)) rfl rfl rfl rfl (len_map _ _) ?_
  iterate 2 refine GX.q (.bool (decide (120 < (b1.Heads.length : Int)))) ?_
  refine GX.m rfl ?_
  rcases bool_two (decide (120 < (b1.Heads.length : Int))) with hb2 | hb2
  ·rw [hb2]; first | replace hR := cond_f hb2 hR | (try simp only [hb2, bb] at hR)
   refine GX.m rfl ?_
   refine GX.pure (v' := .int .i64 (fates2.length : Int)) rfl rfl rfl rfl (len_map _ _) ?_
   iterate 2 refine GX.q (.bool (decide (120 < (fates2.length : Int)))) ?_
   refine GX.done ?_
   rcases bool_two (decide (120 < (fates2.length : Int))) with hb3 | hb3
   ·rw [hb3]; first | replace hR := cond_f hb3 hR | (try simp only [hb3, bb] at hR)
    refine WK.condF rfl ?_
    refine WK.skip ?_
    refine WK.sr mixed ?_
    refine GX.q (.ptr 0 0) ?_
    refine GX.q (.int .u32 a0.Own) ?_
    refine GX.q (.ptr 1 0) ?_
    refine GX.q (.int .u32 b1.Own) ?_
    refine GX.q (.ptr 0 2) ?_
    refine GX.q (.int .u32 a0.Seq) ?_
    refine GX.q (.ptr 0 3) ?_
    refine GX.q (.ro 8 (a0.Heads.map THeader.c)) ?_
    generalize hc40 : F9_exch_Open a0.Own b1.Own a0.Seq a0.Heads = c40 at hR
    rcases c40 with _ | c40
    ·try dsimp only at hR
     cases hR
    try dsimp only at hR
    obtain ⟨c40a, c40b⟩ := c40; try dsimp only at hR
    refine GX.callp (r := .tup [.agg [.int .u32 c40a.Own, .int .u32 c40a.Peer, .int .i64 c40a.Phase, .bool c40a.Leads, .int .u32 c40a.Seq, .ro 8 (c40a.Left.map THeader.c), .ro 8 (c40a.Got.map THeader.c), .int .i64 c40a.Last.MTU, .int .i64 c40a.Last.Options, .bool c40a.Last.Init, .bool c40a.Last.More, .bool c40a.Last.Master, .int .u32 c40a.Last.Seq, .ro 8 (c40a.Last.Heads.map THeader.c)], .agg [.int .i64 c40b.MTU, .int .i64 c40b.Options, .bool c40b.Init, .bool c40b.More, .bool c40b.Master, .int .u32 c40b.Seq, .ro 8 (c40b.Heads.map THeader.c)]]) rfl rfl rfl (f9_ok a0.Own b1.Own a0.Seq a0.Heads _ hc40) rfl rfl ?_
    refine GX.m rfl ?_
    refine GX.q (.agg [.int .u32 c40a.Own, .int .u32 c40a.Peer, .int .i64 c40a.Phase, .bool c40a.Leads, .int .u32 c40a.Seq, .ro 8 (c40a.Left.map THeader.c), .ro 8 (c40a.Got.map THeader.c), .int .i64 c40a.Last.MTU, .int .i64 c40a.Last.Options, .bool c40a.Last.Init, .bool c40a.Last.More, .bool c40a.Last.Master, .int .u32 c40a.Last.Seq, .ro 8 (c40a.Last.Heads.map THeader.c)]) ?_
    refine GX.q (.agg [.int .i64 c40b.MTU, .int .i64 c40b.Options, .bool c40b.Init, .bool c40b.More, .bool c40b.Master, .int .u32 c40b.Seq, .ro 8 (c40b.Heads.map THeader.c)]) ?_
    refine GX.step (v' := .ptr 2 0) (heap' := [(0, .box (TStart.c a0)), (1, .box (TStart.c b1)), (2, .box [.int .u32 0, .int .u32 0, .int .i64 0, .bool false, .int .u32 0, .nils, .nils, .int .i64 0, .int .i64 0, .bool false, .bool false, .bool false, .int .u32 0, .nils])]) (next' := 3) rfl rfl rfl rfl rfl rfl rfl ?_
    refine GX.step (v' := .ptr 3 0) (heap' := [(0, .box (TStart.c a0)), (1, .box (TStart.c b1)), (2, .box [.int .u32 0, .int .u32 0, .int .i64 0, .bool false, .int .u32 0, .nils, .nils, .int .i64 0, .int .i64 0, .bool false, .bool false, .bool false, .int .u32 0, .nils]), (3, .box [.int .i64 0, .int .i64 0, .bool false, .bool false, .bool false, .int .u32 0, .nils])]) (next' := 4) rfl rfl rfl rfl rfl rfl rfl ?_
    refine GX.step0 (heap' := [(0, .box (TStart.c a0)), (1, .box (TStart.c b1)), (2, .box (TSession.c c40a)), (3, .box [.int .i64 0, .int .i64 0, .bool false, .bool false, .bool false, .int .u32 0, .nils])]) (next' := 4) rfl rfl rfl rfl rfl ?_
    refine GX.step0 (heap' := [(0, .box (TStart.c a0)), (1, .box (TStart.c b1)), (2, .box (TSession.c c40a)), (3, .box (TDesc.c c40b))]) (next' := 4) rfl rfl rfl rfl rfl ?_
    refine GX.done ?_
    refine WK.sr mixed ?_
    refine GX.q (.ptr 1 0) ?_
    refine GX.q (.int .u32 b1.Own) ?_
    refine GX.q (.ptr 0 0) ?_
    refine GX.q (.int .u32 a0.Own) ?_
    refine GX.q (.ptr 1 2) ?_
    refine GX.q (.int .u32 b1.Seq) ?_
    refine GX.q (.ptr 1 3) ?_
    refine GX.q (.ro 8 (b1.Heads.map THeader.c)) ?_
    generalize hc52 : F9_exch_Open b1.Own a0.Own b1.Seq b1.Heads = c52 at hR
    rcases c52 with _ | c52
    ·try dsimp only at hR
     cases hR
    try dsimp only at hR
    obtain ⟨c52a, c52b⟩ := c52; try dsimp only at hR
    refine GX.callp (r := .tup [.agg [.int .u32 c52a.Own, .int .u32 c52a.Peer, .int .i64 c52a.Phase, .bool c52a.Leads, .int .u32 c52a.Seq, .ro 8 (c52a.Left.map THeader.c), .ro 8 (c52a.Got.map THeader.c), .int .i64 c52a.Last.MTU, .int .i64 c52a.Last.Options, .bool c52a.Last.Init, .bool c52a.Last.More, .bool c52a.Last.Master, .int .u32 c52a.Last.Seq, .ro 8 (c52a.Last.Heads.map THeader.c)], .agg [.int .i64 c52b.MTU, .int .i64 c52b.Options, .bool c52b.Init, .bool c52b.More, .bool c52b.Master, .int .u32 c52b.Seq, .ro 8 (c52b.Heads.map THeader.c)]]) rfl rfl rfl (f9_ok b1.Own a0.Own b1.Seq b1.Heads _ hc52) rfl rfl ?_
    refine GX.m rfl ?_
    refine GX.q (.agg [.int .u32 c52a.Own, .int .u32 c52a.Peer, .int .i64 c52a.Phase, .bool c52a.Leads, .int .u32 c52a.Seq, .ro 8 (c52a.Left.map THeader.c), .ro 8 (c52a.Got.map THeader.c), .int .i64 c52a.Last.MTU, .int .i64 c52a.Last.Options, .bool c52a.Last.Init, .bool c52a.Last.More, .bool c52a.Last.Master, .int .u32 c52a.Last.Seq, .ro 8 (c52a.Last.Heads.map THeader.c)]) ?_
    refine GX.q (.agg [.int .i64 c52b.MTU, .int .i64 c52b.Options, .bool c52b.Init, .bool c52b.More, .bool c52b.Master, .int .u32 c52b.Seq, .ro 8 (c52b.Heads.map THeader.c)]) ?_
    refine GX.step (v' := .ptr 4 0) (heap' := [(0, .box (TStart.c a0)), (1, .box (TStart.c b1)), (2, .box (TSession.c c40a)), (3, .box (TDesc.c c40b)), (4, .box [.int .u32 0, .int .u32 0, .int .i64 0, .bool false, .int .u32 0, .nils, .nils, .int .i64 0, .int .i64 0, .bool false, .bool false, .bool false, .int .u32 0, .nils])]) (next' := 5) rfl rfl rfl rfl rfl rfl rfl ?_
    refine GX.step (v' := .ptr 5 0) (heap' := [(0, .box (TStart.c a0)), (1, .box (TStart.c b1)), (2, .box (TSession.c c40a)), (3, .box (TDesc.c c40b)), (4, .box [.int .u32 0, .int .u32 0, .int .i64 0, .bool false, .int .u32 0, .nils, .nils, .int .i64 0, .int .i64 0, .bool false, .bool false, .bool false, .int .u32 0, .nils]), (5, .box [.int .i64 0, .int .i64 0, .bool false, .bool false, .bool false, .int .u32 0, .nils])]) (next' := 6) rfl rfl rfl rfl rfl rfl rfl ?_
    refine GX.step0 (heap' := [(0, .box (TStart.c a0)), (1, .box (TStart.c b1)), (2, .box (TSession.c c40a)), (3, .box (TDesc.c c40b)), (4, .box (TSession.c c52a)), (5, .box [.int .i64 0, .int .i64 0, .bool false, .bool false, .bool false, .int .u32 0, .nils])]) (next' := 6) rfl rfl rfl rfl rfl ?_
    refine GX.step0 (heap' := [(0, .box (TStart.c a0)), (1, .box (TStart.c b1)), (2, .box (TSession.c c40a)), (3, .box (TDesc.c c40b)), (4, .box (TSession.c c52a)), (5, .box (TDesc.c c52b))]) (next' := 6) rfl rfl rfl rfl rfl ?_
    refine GX.done ?_
    refine WK.sr mixed ?_
    refine GX.q (.agg (TSession.c c40a)) ?_
    refine GX.q (.agg (TSession.c c52a)) ?_
    refine GX.m rfl ?_
    generalize hc59 : F19_exch_Run c40a c52a fates2 = c59 at hR
    rcases c59 with _ | c59
    ·try dsimp only at hR
     cases hR
    try dsimp only at hR
    obtain ⟨c59a, c59b⟩ := c59; try dsimp only at hR
    refine GX.callp (r := .tup [.agg [.int .u32 c59a.Own, .int .u32 c59a.Peer, .int .i64 c59a.Phase, .bool c59a.Leads, .int .u32 c59a.Seq, .ro 8 (c59a.Left.map THeader.c), .ro 8 (c59a.Got.map THeader.c), .int .i64 c59a.Last.MTU, .int .i64 c59a.Last.Options, .bool c59a.Last.Init, .bool c59a.Last.More, .bool c59a.Last.Master, .int .u32 c59a.Last.Seq, .ro 8 (c59a.Last.Heads.map THeader.c)], .agg [.int .u32 c59b.Own, .int .u32 c59b.Peer, .int .i64 c59b.Phase, .bool c59b.Leads, .int .u32 c59b.Seq, .ro 8 (c59b.Left.map THeader.c), .ro 8 (c59b.Got.map THeader.c), .int .i64 c59b.Last.MTU, .int .i64 c59b.Last.Options, .bool c59b.Last.Init, .bool c59b.Last.More, .bool c59b.Last.Master, .int .u32 c59b.Last.Seq, .ro 8 (c59b.Last.Heads.map THeader.c)]]) rfl rfl rfl (f19_ok c40a c52a fates2 _ hc59) rfl rfl ?_
    refine GX.m rfl ?_
    refine GX.q (.agg [.int .u32 c59a.Own, .int .u32 c59a.Peer, .int .i64 c59a.Phase, .bool c59a.Leads, .int .u32 c59a.Seq, .ro 8 (c59a.Left.map THeader.c), .ro 8 (c59a.Got.map THeader.c), .int .i64 c59a.Last.MTU, .int .i64 c59a.Last.Options, .bool c59a.Last.Init, .bool c59a.Last.More, .bool c59a.Last.Master, .int .u32 c59a.Last.Seq, .ro 8 (c59a.Last.Heads.map THeader.c)]) ?_
    refine GX.q (.agg [.int .u32 c59b.Own, .int .u32 c59b.Peer, .int .i64 c59b.Phase, .bool c59b.Leads, .int .u32 c59b.Seq, .ro 8 (c59b.Left.map THeader.c), .ro 8 (c59b.Got.map THeader.c), .int .i64 c59b.Last.MTU, .int .i64 c59b.Last.Options, .bool c59b.Last.Init, .bool c59b.Last.More, .bool c59b.Last.Master, .int .u32 c59b.Last.Seq, .ro 8 (c59b.Last.Heads.map THeader.c)]) ?_
    refine GX.step (v' := .ptr 6 0) (heap' := [(0, .box (TStart.c a0)), (1, .box (TStart.c b1)), (2, .box (TSession.c c40a)), (3, .box (TDesc.c c40b)), (4, .box (TSession.c c52a)), (5, .box (TDesc.c c52b)), (6, .box [.int .u32 0, .int .u32 0, .int .i64 0, .bool false, .int .u32 0, .nils, .nils, .int .i64 0, .int .i64 0, .bool false, .bool false, .bool false, .int .u32 0, .nils])]) (next' := 7) rfl rfl rfl rfl rfl rfl rfl ?_
    refine GX.step (v' := .ptr 7 0) (heap' := [(0, .box (TStart.c a0)), (1, .box (TStart.c b1)), (2, .box (TSession.c c40a)), (3, .box (TDesc.c c40b)), (4, .box (TSession.c c52a)), (5, .box (TDesc.c c52b)), (6, .box [.int .u32 0, .int .u32 0, .int .i64 0, .bool false, .int .u32 0, .nils, .nils, .int .i64 0, .int .i64 0, .bool false, .bool false, .bool false, .int .u32 0, .nils]), (7, .box [.int .u32 0, .int .u32 0, .int .i64 0, .bool false, .int .u32 0, .nils, .nils, .int .i64 0, .int .i64 0, .bool false, .bool false, .bool false, .int .u32 0, .nils])]) (next' := 8) rfl rfl rfl rfl rfl rfl rfl ?_
    refine GX.step0 (heap' := [(0, .box (TStart.c a0)), (1, .box (TStart.c b1)), (2, .box (TSession.c c40a)), (3, .box (TDesc.c c40b)), (4, .box (TSession.c c52a)), (5, .box (TDesc.c c52b)), (6, .box (TSession.c c59a)), (7, .box [.int .u32 0, .int .u32 0, .int .i64 0, .bool false, .int .u32 0, .nils, .nils, .int .i64 0, .int .i64 0, .bool false, .bool false, .bool false, .int .u32 0, .nils])]) (next' := 8) rfl rfl rfl rfl rfl ?_
    refine GX.step0 (heap' := [(0, .box (TStart.c a0)), (1, .box (TStart.c b1)), (2, .box (TSession.c c40a)), (3, .box (TDesc.c c40b)), (4, .box (TSession.c c52a)), (5, .box (TDesc.c c52b)), (6, .box (TSession.c c59a)), (7, .box (TSession.c c59b))]) (next' := 8) rfl rfl rfl rfl rfl ?_
    refine GX.done ?_
    refine WK.seq ?_
    refine WK.drawn mixed ?_
    refine RD.q (.agg (TSession.c c40a)) ?_
    generalize hc64 : F14_crossroadslaw17_plain c40a = c64 at hR
    try dsimp only at hR
    refine RD.callp (r := .agg [.int .u32 c64.Own, .int .u32 c64.Peer, .int .i64 c64.Phase, .bool c64.Leads, .int .u32 c64.Seq, .ro 8 (c64.Left.map THeader.c), .ro 8 (c64.Got.map THeader.c), .int .i64 c64.Last.MTU, .int .i64 c64.Last.Options, .bool c64.Last.Init, .bool c64.Last.More, .bool c64.Last.Master, .int .u32 c64.Last.Seq, .ro 8 (c64.Last.Heads.map THeader.c)]) rfl rfl rfl (f14_ok c40a _ hc64) rfl rfl ?_
    refine RD.q (.agg (TSession.c c52a)) ?_
    generalize hc66 : F14_crossroadslaw17_plain c52a = c66 at hR
    try dsimp only at hR
    refine RD.callp (r := .agg [.int .u32 c66.Own, .int .u32 c66.Peer, .int .i64 c66.Phase, .bool c66.Leads, .int .u32 c66.Seq, .ro 8 (c66.Left.map THeader.c), .ro 8 (c66.Got.map THeader.c), .int .i64 c66.Last.MTU, .int .i64 c66.Last.Options, .bool c66.Last.Init, .bool c66.Last.More, .bool c66.Last.Master, .int .u32 c66.Last.Seq, .ro 8 (c66.Last.Heads.map THeader.c)]) rfl rfl rfl (f14_ok c52a _ hc66) rfl rfl ?_
    refine RD.m rfl ?_
    generalize hc68 : F20_crossroadsref17_Run c64 c66 fates2 = c68 at hR
    rcases c68 with _ | c68
    ·try dsimp only at hR
     cases hR
    try dsimp only at hR
    obtain ⟨c68a, c68b⟩ := c68; try dsimp only at hR
    refine RD.callp (r := .tup [.agg [.int .u32 c68a.Own, .int .u32 c68a.Peer, .int .i64 c68a.Phase, .bool c68a.Leads, .int .u32 c68a.Seq, .ro 8 (c68a.Left.map THeader.c), .ro 8 (c68a.Got.map THeader.c), .int .i64 c68a.Last.MTU, .int .i64 c68a.Last.Options, .bool c68a.Last.Init, .bool c68a.Last.More, .bool c68a.Last.Master, .int .u32 c68a.Last.Seq, .ro 8 (c68a.Last.Heads.map THeader.c)], .agg [.int .u32 c68b.Own, .int .u32 c68b.Peer, .int .i64 c68b.Phase, .bool c68b.Leads, .int .u32 c68b.Seq, .ro 8 (c68b.Left.map THeader.c), .ro 8 (c68b.Got.map THeader.c), .int .i64 c68b.Last.MTU, .int .i64 c68b.Last.Options, .bool c68b.Last.Init, .bool c68b.Last.More, .bool c68b.Last.Master, .int .u32 c68b.Last.Seq, .ro 8 (c68b.Last.Heads.map THeader.c)]]) rfl rfl rfl (f20_ok c64 c66 fates2 _ hc68) rfl rfl ?_
    refine RD.m rfl ?_
    refine RD.q (.agg [.int .u32 c68a.Own, .int .u32 c68a.Peer, .int .i64 c68a.Phase, .bool c68a.Leads, .int .u32 c68a.Seq, .ro 8 (c68a.Left.map THeader.c), .ro 8 (c68a.Got.map THeader.c), .int .i64 c68a.Last.MTU, .int .i64 c68a.Last.Options, .bool c68a.Last.Init, .bool c68a.Last.More, .bool c68a.Last.Master, .int .u32 c68a.Last.Seq, .ro 8 (c68a.Last.Heads.map THeader.c)]) ?_
    refine RD.q (.agg [.int .u32 c68b.Own, .int .u32 c68b.Peer, .int .i64 c68b.Phase, .bool c68b.Leads, .int .u32 c68b.Seq, .ro 8 (c68b.Left.map THeader.c), .ro 8 (c68b.Got.map THeader.c), .int .i64 c68b.Last.MTU, .int .i64 c68b.Last.Options, .bool c68b.Last.Init, .bool c68b.Last.More, .bool c68b.Last.Master, .int .u32 c68b.Last.Seq, .ro 8 (c68b.Last.Heads.map THeader.c)]) ?_
    refine RD.step (v' := .ptr 8 0) (heap' := [(0, .box (TStart.c a0)), (1, .box (TStart.c b1)), (2, .box (TSession.c c40a)), (3, .box (TDesc.c c40b)), (4, .box (TSession.c c52a)), (5, .box (TDesc.c c52b)), (6, .box (TSession.c c59a)), (7, .box (TSession.c c59b)), (8, .box [.int .u32 0, .int .u32 0, .int .i64 0, .bool false, .int .u32 0, .nils, .nils, .int .i64 0, .int .i64 0, .bool false, .bool false, .bool false, .int .u32 0, .nils])]) (next' := 9) rfl rfl rfl rfl rfl rfl rfl ?_
    refine RD.step (v' := .ptr 9 0) (heap' := [(0, .box (TStart.c a0)), (1, .box (TStart.c b1)), (2, .box (TSession.c c40a)), (3, .box (TDesc.c c40b)), (4, .box (TSession.c c52a)), (5, .box (TDesc.c c52b)), (6, .box (TSession.c c59a)), (7, .box (TSession.c c59b)), (8, .box [.int .u32 0, .int .u32 0, .int .i64 0, .bool false, .int .u32 0, .nils, .nils, .int .i64 0, .int .i64 0, .bool false, .bool false, .bool false, .int .u32 0, .nils]), (9, .box [.int .u32 0, .int .u32 0, .int .i64 0, .bool false, .int .u32 0, .nils, .nils, .int .i64 0, .int .i64 0, .bool false, .bool false, .bool false, .int .u32 0, .nils])]) (next' := 10) rfl rfl rfl rfl rfl rfl rfl ?_
    refine RD.step0 (heap' := [(0, .box (TStart.c a0)), (1, .box (TStart.c b1)), (2, .box (TSession.c c40a)), (3, .box (TDesc.c c40b)), (4, .box (TSession.c c52a)), (5, .box (TDesc.c c52b)), (6, .box (TSession.c c59a)), (7, .box (TSession.c c59b)), (8, .box (TSession.c c68a)), (9, .box [.int .u32 0, .int .u32 0, .int .i64 0, .bool false, .int .u32 0, .nils, .nils, .int .i64 0, .int .i64 0, .bool false, .bool false, .bool false, .int .u32 0, .nils])]) (next' := 10) rfl rfl rfl rfl rfl ?_
    refine RD.step0 (heap' := [(0, .box (TStart.c a0)), (1, .box (TStart.c b1)), (2, .box (TSession.c c40a)), (3, .box (TDesc.c c40b)), (4, .box (TSession.c c52a)), (5, .box (TDesc.c c52b)), (6, .box (TSession.c c59a)), (7, .box (TSession.c c59b)), (8, .box (TSession.c c68a)), (9, .box (TSession.c c68b))]) (next' := 10) rfl rfl rfl rfl rfl ?_
    refine RD.done rfl ?_
    refine WK.seq ?_
    refine WK.drawn mixed ?_
    generalize hc71 : F8_crossroadslaw17_alive = c71 at hR
    rcases c71 with _ | c71
    ·try dsimp only at hR
     cases hR
    try dsimp only at hR
    try dsimp only at hR
    refine RD.callp (r := .bool c71) rfl rfl rfl (f8_ok  _ hc71) rfl rfl ?_
    refine RD.m rfl ?_
    rcases bool_two (c71) with hb4 | hb4
    ·rw [hb4]; first | replace hR := cond_f hb4 hR | (try simp only [hb4, bb] at hR)
     iterate 4 refine RD.skip rfl rfl ?_
     refine RD.q (.bool false) ?_
     refine RD.m rfl ?_
     iterate 4 refine RD.skip rfl rfl ?_
     refine RD.q (.bool false) ?_
     refine RD.m rfl ?_
     refine RD.done rfl ?_
     refine WK.ret ?_
     obtain rfl := Option.some.inj hR
     exact RetQ.fr [] (.inr rfl) rfl rfl rfl rfl
    ·rw [hb4]; first | replace hR := cond_t hb4 hR | (try simp only [hb4, bb] at hR)
     refine RD.q (.agg (TSession.c c59a)) ?_
     generalize hc74 : F14_crossroadslaw17_plain c59a = c74 at hR
     try dsimp only at hR
     refine RD.callp (r := .agg [.int .u32 c74.Own, .int .u32 c74.Peer, .int .i64 c74.Phase, .bool c74.Leads, .int .u32 c74.Seq, .ro 8 (c74.Left.map THeader.c), .ro 8 (c74.Got.map THeader.c), .int .i64 c74.Last.MTU, .int .i64 c74.Last.Options, .bool c74.Last.Init, .bool c74.Last.More, .bool c74.Last.Master, .int .u32 c74.Last.Seq, .ro 8 (c74.Last.Heads.map THeader.c)]) rfl rfl rfl (f14_ok c59a _ hc74) rfl rfl ?_
     refine RD.q (.agg (TSession.c c68a)) ?_
     generalize hc76 : F13_crossroadsref17_Same c74 c68a = c76 at hR
     try dsimp only at hR
     refine RD.callp (r := .bool c76) rfl rfl rfl (f13_ok c74 c68a _ hc76) rfl rfl ?_
     refine RD.q (.bool c76) ?_
     refine RD.m rfl ?_
     rcases bool_two (c76) with hb5 | hb5
     ·rw [hb5]; first | replace hR := cond_f hb5 hR | (try simp only [hb5, bb] at hR)
      iterate 4 refine RD.skip rfl rfl ?_
      refine RD.q (.bool false) ?_
      refine RD.m rfl ?_
      refine RD.done rfl ?_
      refine WK.ret ?_
      obtain rfl := Option.some.inj hR
      exact RetQ.fr [] (.inr rfl) rfl rfl rfl rfl
     ·rw [hb5]; first | replace hR := cond_t hb5 hR | (try simp only [hb5, bb] at hR)
      refine RD.q (.agg (TSession.c c59b)) ?_
      generalize hc80 : F14_crossroadslaw17_plain c59b = c80 at hR
      try dsimp only at hR
      refine RD.callp (r := .agg [.int .u32 c80.Own, .int .u32 c80.Peer, .int .i64 c80.Phase, .bool c80.Leads, .int .u32 c80.Seq, .ro 8 (c80.Left.map THeader.c), .ro 8 (c80.Got.map THeader.c), .int .i64 c80.Last.MTU, .int .i64 c80.Last.Options, .bool c80.Last.Init, .bool c80.Last.More, .bool c80.Last.Master, .int .u32 c80.Last.Seq, .ro 8 (c80.Last.Heads.map THeader.c)]) rfl rfl rfl (f14_ok c59b _ hc80) rfl rfl ?_
      refine RD.q (.agg (TSession.c c68b)) ?_
      generalize hc82 : F13_crossroadsref17_Same c80 c68b = c82 at hR
      try dsimp only at hR
      refine RD.callp (r := .bool c82) rfl rfl rfl (f13_ok c80 c68b _ hc82) rfl rfl ?_
      refine RD.q (.bool c82) ?_
      refine RD.m rfl ?_
      refine RD.done rfl ?_
      refine WK.ret ?_
      obtain rfl := Option.some.inj hR
      exact RetQ.fr [] (.inr rfl) rfl rfl rfl rfl
   ·rw [hb3]; first | replace hR := cond_t hb3 hR | (try simp only [hb3, bb] at hR)
    refine WK.condT rfl ?_
    refine WK.sr mixed ?_
    generalize hc30 : F8_crossroadslaw17_alive = c30 at hR
    rcases c30 with _ | c30
    ·try dsimp only at hR
     cases hR
    try dsimp only at hR
    try dsimp only at hR
    refine GX.callp (r := .bool c30) rfl rfl rfl (f8_ok  _ hc30) rfl rfl ?_
    refine GX.m rfl ?_
    refine GX.done ?_
    refine WK.ret ?_
    obtain rfl := Option.some.inj hR
    exact RetQ.fr [] (.inr rfl) rfl rfl rfl rfl
  ·rw [hb2]; first | replace hR := cond_t hb2 hR | (try simp only [hb2, bb] at hR)
   iterate 3 refine GX.skip rfl rfl ?_
   refine GX.q (.bool true) ?_
   refine GX.done ?_
   refine WK.condT rfl ?_
   refine WK.sr mixed ?_
   generalize hc30 : F8_crossroadslaw17_alive = c30 at hR
   rcases c30 with _ | c30
   ·try dsimp only at hR
    cases hR
   try dsimp only at hR
   try dsimp only at hR
   refine GX.callp (r := .bool c30) rfl rfl rfl (f8_ok  _ hc30) rfl rfl ?_
   refine GX.m rfl ?_
   refine GX.done ?_
   refine WK.ret ?_
   obtain rfl := Option.some.inj hR
   exact RetQ.fr [] (.inr rfl) rfl rfl rfl rfl
 ·rw [hb1]; first | replace hR := cond_t hb1 hR | (try simp only [hb1, bb] at hR)
  iterate 4 refine GX.skip rfl rfl ?_
  refine GX.q (.bool true) ?_
  refine GX.m rfl ?_
  iterate 3 refine GX.skip rfl rfl ?_
  refine GX.q (.bool true) ?_
  refine GX.done ?_
  refine WK.condT rfl ?_
  refine WK.sr mixed ?_
  generalize hc30 : F8_crossroadslaw17_alive = c30 at hR
  rcases c30 with _ | c30
  ·try dsimp only at hR
   cases hR
  try dsimp only at hR
  try dsimp only at hR
  refine GX.callp (r := .bool c30) rfl rfl rfl (f8_ok  _ hc30) rfl rfl ?_
  refine GX.m rfl ?_
  refine GX.done ?_
  refine WK.ret ?_
  obtain rfl := Option.some.inj hR
  exact RetQ.fr [] (.inr rfl) rfl rfl rfl rfl

end Go.Proofs.Ytbmdpedhobkeeaa.Abs
