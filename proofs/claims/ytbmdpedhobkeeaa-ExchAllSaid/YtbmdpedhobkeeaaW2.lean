/- The functions walked: each computes its Lean function (printed by this work's own program gen.py). -/
import Derived.Test.YtbmdpedhobkeeaaSq
import Derived.Test.YtbmdpedhobkeeaaW1
set_option linter.unusedVariables false
set_option linter.unusedSimpArgs false
set_option maxRecDepth 10000
set_option maxHeartbeats 4000000
namespace Go.Proofs.Ytbmdpedhobkeeaa.Abs
open Go

theorem f19_ok (a0 : TSession) (b1 : TSession) (fates2 : List Int) (R : TSession × TSession) (hR : F19_exch_Run a0 b1 fates2 = some R) : FnOk Try.prog 19 [.agg (TSession.c a0), .agg (TSession.c b1), .ro 1 (fates2.map c_i64)] [] 0 (.tup [.agg (TSession.c R.1), .agg (TSession.c R.2)]) [] 0 := by
 refine FnOk.wk i19 rfl rfl ?_
 unfold F19_exch_Run at hR
 try dsimp only at hR
 change WK _ _ _ [ac19] _ ⟨[(0, .agg (TSession.c a0)), (1, .agg (TSession.c b1)), (2, .ro 1 (fates2.map c_i64))], [], 0⟩
 unfold ac19
 refine WK.sr mixed ?_
 refine GX.step (v' := .ptr 0 0) (heap' := [(0, .box (TSession.c a0))]) (next' := 1) rfl rfl rfl rfl rfl rfl rfl ?_
 refine GX.step (v' := .ptr 1 0) (heap' := [(0, .box (TSession.c a0)), (1, .box (TSession.c b1))]) (next' := 2) rfl rfl rfl rfl rfl rfl rfl ?_
 refine GX.step (v' := .ptr 2 0) (heap' := [(0, .box (TSession.c a0)), (1, .box (TSession.c b1)), (2, .box [.int .u32 0, .int .u32 0, .int .i64 0, .bool false, .int .u32 0, .nils, .nils, .int .i64 0, .int .i64 0, .bool false, .bool false, .bool false, .int .u32 0, .nils])]) (next' := 3) rfl rfl rfl rfl rfl rfl rfl ?_
 refine GX.step (v' := .ptr 3 0) (heap' := [(0, .box (TSession.c a0)), (1, .box (TSession.c b1)), (2, .box [.int .u32 0, .int .u32 0, .int .i64 0, .bool false, .int .u32 0, .nils, .nils, .int .i64 0, .int .i64 0, .bool false, .bool false, .bool false, .int .u32 0, .nils]), (3, .box [.int .u32 0, .int .u32 0, .int .i64 0, .bool false, .int .u32 0, .nils, .nils, .int .i64 0, .int .i64 0, .bool false, .bool false, .bool false, .int .u32 0, .nils])]) (next' := 4) rfl rfl rfl rfl rfl rfl rfl ?_
 refine GX.done ?_
 refine WK.seq ?_
 refine WK.drawn mixed ?_
 refine RD.q (.agg (TSession.c a0)) ?_
 refine RD.q (.ptr 1 7) ?_
 refine RD.q (.agg [.int .i64 b1.Last.MTU, .int .i64 b1.Last.Options, .bool b1.Last.Init, .bool b1.Last.More, .bool b1.Last.Master, .int .u32 b1.Last.Seq, .ro 8 (b1.Last.Heads.map THeader.c)]) ?_
 refine RD.step (v' := .own 4 7 0 (([b1.Last] : List TDesc)).length) (heap' := [(0, .box (TSession.c a0)), (1, .box (TSession.c b1)), (2, .box [.int .u32 0, .int .u32 0, .int .i64 0, .bool false, .int .u32 0, .nils, .nils, .int .i64 0, .int .i64 0, .bool false, .bool false, .bool false, .int .u32 0, .nils]), (3, .box [.int .u32 0, .int .u32 0, .int .i64 0, .bool false, .int .u32 0, .nils, .nils, .int .i64 0, .int .i64 0, .bool false, .bool false, .bool false, .int .u32 0, .nils]), (4, .row 7 29 (([b1.Last] : List TDesc).map TDesc.c))]) (next' := 5) rfl rfl rfl rfl rfl rfl rfl ?_
 refine RD.q (.agg [.int .u32 a0.Own, .int .u32 a0.Peer, .int .i64 a0.Phase, .bool a0.Leads, .int .u32 a0.Seq, .ro 8 (a0.Left.map THeader.c), .ro 8 (a0.Got.map THeader.c), .int .i64 a0.Last.MTU, .int .i64 a0.Last.Options, .bool a0.Last.Init, .bool a0.Last.More, .bool a0.Last.Master, .int .u32 a0.Last.Seq, .ro 8 (a0.Last.Heads.map THeader.c), .own 4 7 0 (([b1.Last] : List TDesc)).length]) ?_
 refine RD.step (v' := .ptr 5 0) (heap' := [(0, .box (TSession.c a0)), (1, .box (TSession.c b1)), (2, .box [.int .u32 0, .int .u32 0, .int .i64 0, .bool false, .int .u32 0, .nils, .nils, .int .i64 0, .int .i64 0, .bool false, .bool false, .bool false, .int .u32 0, .nils]), (3, .box [.int .u32 0, .int .u32 0, .int .i64 0, .bool false, .int .u32 0, .nils, .nils, .int .i64 0, .int .i64 0, .bool false, .bool false, .bool false, .int .u32 0, .nils]), (4, .row 7 29 (([b1.Last] : List TDesc).map TDesc.c)), (5, .box [.int .u32 a0.Own, .int .u32 a0.Peer, .int .i64 a0.Phase, .bool a0.Leads, .int .u32 a0.Seq, .ro 8 (a0.Left.map THeader.c), .ro 8 (a0.Got.map THeader.c), .int .i64 a0.Last.MTU, .int .i64 a0.Last.Options, .bool a0.Last.Init, .bool a0.Last.More, .bool a0.Last.Master, .int .u32 a0.Last.Seq, .ro 8 (a0.Last.Heads.map THeader.c), .own 4 7 0 (([b1.Last] : List TDesc)).length])]) (next' := 6) rfl rfl rfl rfl rfl rfl rfl ?_
 refine RD.q (.agg (TSession.c b1)) ?_
 refine RD.q (.ptr 0 7) ?_
 refine RD.q (.agg [.int .i64 a0.Last.MTU, .int .i64 a0.Last.Options, .bool a0.Last.Init, .bool a0.Last.More, .bool a0.Last.Master, .int .u32 a0.Last.Seq, .ro 8 (a0.Last.Heads.map THeader.c)]) ?_
 refine RD.step (v' := .own 6 7 0 (([a0.Last] : List TDesc)).length) (heap' := [(0, .box (TSession.c a0)), (1, .box (TSession.c b1)), (2, .box [.int .u32 0, .int .u32 0, .int .i64 0, .bool false, .int .u32 0, .nils, .nils, .int .i64 0, .int .i64 0, .bool false, .bool false, .bool false, .int .u32 0, .nils]), (3, .box [.int .u32 0, .int .u32 0, .int .i64 0, .bool false, .int .u32 0, .nils, .nils, .int .i64 0, .int .i64 0, .bool false, .bool false, .bool false, .int .u32 0, .nils]), (4, .row 7 29 (([b1.Last] : List TDesc).map TDesc.c)), (5, .box [.int .u32 a0.Own, .int .u32 a0.Peer, .int .i64 a0.Phase, .bool a0.Leads, .int .u32 a0.Seq, .ro 8 (a0.Left.map THeader.c), .ro 8 (a0.Got.map THeader.c), .int .i64 a0.Last.MTU, .int .i64 a0.Last.Options, .bool a0.Last.Init, .bool a0.Last.More, .bool a0.Last.Master, .int .u32 a0.Last.Seq, .ro 8 (a0.Last.Heads.map THeader.c), .own 4 7 0 (([b1.Last] : List TDesc)).length]), (6, .row 7 29 (([a0.Last] : List TDesc).map TDesc.c))]) (next' := 7) rfl rfl rfl rfl rfl rfl rfl ?_
 refine RD.q (.agg [.int .u32 b1.Own, .int .u32 b1.Peer, .int .i64 b1.Phase, .bool b1.Leads, .int .u32 b1.Seq, .ro 8 (b1.Left.map THeader.c), .ro 8 (b1.Got.map THeader.c), .int .i64 b1.Last.MTU, .int .i64 b1.Last.Options, .bool b1.Last.Init, .bool b1.Last.More, .bool b1.Last.Master, .int .u32 b1.Last.Seq, .ro 8 (b1.Last.Heads.map THeader.c), .own 6 7 0 (([a0.Last] : List TDesc)).length]) ?_
 refine RD.step (v' := .ptr 7 0) (heap' := [(0, .box (TSession.c a0)), (1, .box (TSession.c b1)), (2, .box [.int .u32 0, .int .u32 0, .int .i64 0, .bool false, .int .u32 0, .nils, .nils, .int .i64 0, .int .i64 0, .bool false, .bool false, .bool false, .int .u32 0, .nils]), (3, .box [.int .u32 0, .int .u32 0, .int .i64 0, .bool false, .int .u32 0, .nils, .nils, .int .i64 0, .int .i64 0, .bool false, .bool false, .bool false, .int .u32 0, .nils]), (4, .row 7 29 (([b1.Last] : List TDesc).map TDesc.c)), (5, .box [.int .u32 a0.Own, .int .u32 a0.Peer, .int .i64 a0.Phase, .bool a0.Leads, .int .u32 a0.Seq, .ro 8 (a0.Left.map THeader.c), .ro 8 (a0.Got.map THeader.c), .int .i64 a0.Last.MTU, .int .i64 a0.Last.Options, .bool a0.Last.Init, .bool a0.Last.More, .bool a0.Last.Master, .int .u32 a0.Last.Seq, .ro 8 (a0.Last.Heads.map THeader.c), .own 4 7 0 (([b1.Last] : List TDesc)).length]), (6, .row 7 29 (([a0.Last] : List TDesc).map TDesc.c)), (7, .box [.int .u32 b1.Own, .int .u32 b1.Peer, .int .i64 b1.Phase, .bool b1.Leads, .int .u32 b1.Seq, .ro 8 (b1.Left.map THeader.c), .ro 8 (b1.Got.map THeader.c), .int .i64 b1.Last.MTU, .int .i64 b1.Last.Options, .bool b1.Last.Init, .bool b1.Last.More, .bool b1.Last.Master, .int .u32 b1.Last.Seq, .ro 8 (b1.Last.Heads.map THeader.c), .own 6 7 0 (([a0.Last] : List TDesc)).length])]) (next' := 8) rfl rfl rfl rfl rfl rfl rfl ?_
 iterate 2 refine RD.m rfl ?_
 refine RD.done rfl ?_
 refine WK.seq ?_
 refine WK.sr mixed ?_
 refine GX.m rfl ?_
 refine GX.pure (v' := .int .i64 (fates2.length : Int)) rfl rfl rfl rfl (len_map _ _) ?_
 refine GX.m rfl ?_
 refine GX.done ?_
 refine WK.len (t := 2) rfl (by simp) (fun hlen_15 => ?_)
 rw [List.length_map] at hlen_15
 generalize hZ_15 : F19_exch_Run_l1 (⟨a0, ([b1.Last] : List TDesc)⟩ : TEnd) (⟨b1, ([a0.Last] : List TDesc)⟩ : TEnd) fates2 = Z_15 at hR
 refine WK.forK (fun k s => ∃ (i28 : Nat) (x8 : TEnd) (y9 : TEnd), i28 ≤ fates2.length ∧ k = fates2.length - i28 ∧ F19_exch_Run_l1 x8 y9 (fates2.drop i28) = Z_15 ∧ s = ⟨[(6, .ptr 0 0), (7, .ptr 1 0), (8, .ptr 2 0), (9, .ptr 4 0), (26, .ro 1 (fates2.map c_i64)), (27, .int .i64 (fates2.length : Int)), (28, .int .i64 (i28 : Int))], [(0, .box [.int .u32 0, .int .u32 0, .int .i64 0, .bool false, .int .u32 0, .nils, .nils, .int .i64 0, .int .i64 0, .bool false, .bool false, .bool false, .int .u32 0, .nils]), (1, .box [.int .u32 0, .int .u32 0, .int .i64 0, .bool false, .int .u32 0, .nils, .nils, .int .i64 0, .int .i64 0, .bool false, .bool false, .bool false, .int .u32 0, .nils]), (2, .box [.int .u32 x8.s.Own, .int .u32 x8.s.Peer, .int .i64 x8.s.Phase, .bool x8.s.Leads, .int .u32 x8.s.Seq, .ro 8 (x8.s.Left.map THeader.c), .ro 8 (x8.s.Got.map THeader.c), .int .i64 x8.s.Last.MTU, .int .i64 x8.s.Last.Options, .bool x8.s.Last.Init, .bool x8.s.Last.More, .bool x8.s.Last.Master, .int .u32 x8.s.Last.Seq, .ro 8 (x8.s.Last.Heads.map THeader.c), .own 3 7 0 x8.waits.length]), (3, .row 7 29 (x8.waits.map TDesc.c)), (4, .box [.int .u32 y9.s.Own, .int .u32 y9.s.Peer, .int .i64 y9.s.Phase, .bool y9.s.Leads, .int .u32 y9.s.Seq, .ro 8 (y9.s.Left.map THeader.c), .ro 8 (y9.s.Got.map THeader.c), .int .i64 y9.s.Last.MTU, .int .i64 y9.s.Last.Options, .bool y9.s.Last.Init, .bool y9.s.Last.More, .bool y9.s.Last.Master, .int .u32 y9.s.Last.Seq, .ro 8 (y9.s.Last.Heads.map THeader.c), .own 5 7 0 y9.waits.length]), (5, .row 7 29 (y9.waits.map TDesc.c))], 6⟩) fates2.length ⟨⟨[(6, .ptr 0 0), (7, .ptr 1 0), (8, .ptr 2 0), (9, .ptr 4 0), (26, .ro 1 (fates2.map c_i64)), (27, .int .i64 (fates2.length : Int)), (28, .int .i64 (0 : Int))], [(0, .box [.int .u32 0, .int .u32 0, .int .i64 0, .bool false, .int .u32 0, .nils, .nils, .int .i64 0, .int .i64 0, .bool false, .bool false, .bool false, .int .u32 0, .nils]), (1, .box [.int .u32 0, .int .u32 0, .int .i64 0, .bool false, .int .u32 0, .nils, .nils, .int .i64 0, .int .i64 0, .bool false, .bool false, .bool false, .int .u32 0, .nils]), (2, .box [.int .u32 (⟨a0, ([b1.Last] : List TDesc)⟩ : TEnd).s.Own, .int .u32 (⟨a0, ([b1.Last] : List TDesc)⟩ : TEnd).s.Peer, .int .i64 (⟨a0, ([b1.Last] : List TDesc)⟩ : TEnd).s.Phase, .bool (⟨a0, ([b1.Last] : List TDesc)⟩ : TEnd).s.Leads, .int .u32 (⟨a0, ([b1.Last] : List TDesc)⟩ : TEnd).s.Seq, .ro 8 ((⟨a0, ([b1.Last] : List TDesc)⟩ : TEnd).s.Left.map THeader.c), .ro 8 ((⟨a0, ([b1.Last] : List TDesc)⟩ : TEnd).s.Got.map THeader.c), .int .i64 (⟨a0, ([b1.Last] : List TDesc)⟩ : TEnd).s.Last.MTU, .int .i64 (⟨a0, ([b1.Last] : List TDesc)⟩ : TEnd).s.Last.Options, .bool (⟨a0, ([b1.Last] : List TDesc)⟩ : TEnd).s.Last.Init, .bool (⟨a0, ([b1.Last] : List TDesc)⟩ : TEnd).s.Last.More, .bool (⟨a0, ([b1.Last] : List TDesc)⟩ : TEnd).s.Last.Master, .int .u32 (⟨a0, ([b1.Last] : List TDesc)⟩ : TEnd).s.Last.Seq, .ro 8 ((⟨a0, ([b1.Last] : List TDesc)⟩ : TEnd).s.Last.Heads.map THeader.c), .own 3 7 0 (⟨a0, ([b1.Last] : List TDesc)⟩ : TEnd).waits.length]), (3, .row 7 29 ((⟨a0, ([b1.Last] : List TDesc)⟩ : TEnd).waits.map TDesc.c)), (4, .box [.int .u32 (⟨b1, ([a0.Last] : List TDesc)⟩ : TEnd).s.Own, .int .u32 (⟨b1, ([a0.Last] : List TDesc)⟩ : TEnd).s.Peer, .int .i64 (⟨b1, ([a0.Last] : List TDesc)⟩ : TEnd).s.Phase, .bool (⟨b1, ([a0.Last] : List TDesc)⟩ : TEnd).s.Leads, .int .u32 (⟨b1, ([a0.Last] : List TDesc)⟩ : TEnd).s.Seq, .ro 8 ((⟨b1, ([a0.Last] : List TDesc)⟩ : TEnd).s.Left.map THeader.c), .ro 8 ((⟨b1, ([a0.Last] : List TDesc)⟩ : TEnd).s.Got.map THeader.c), .int .i64 (⟨b1, ([a0.Last] : List TDesc)⟩ : TEnd).s.Last.MTU, .int .i64 (⟨b1, ([a0.Last] : List TDesc)⟩ : TEnd).s.Last.Options, .bool (⟨b1, ([a0.Last] : List TDesc)⟩ : TEnd).s.Last.Init, .bool (⟨b1, ([a0.Last] : List TDesc)⟩ : TEnd).s.Last.More, .bool (⟨b1, ([a0.Last] : List TDesc)⟩ : TEnd).s.Last.Master, .int .u32 (⟨b1, ([a0.Last] : List TDesc)⟩ : TEnd).s.Last.Seq, .ro 8 ((⟨b1, ([a0.Last] : List TDesc)⟩ : TEnd).s.Last.Heads.map THeader.c), .own 5 7 0 (⟨b1, ([a0.Last] : List TDesc)⟩ : TEnd).waits.length]), (5, .row 7 29 ((⟨b1, ([a0.Last] : List TDesc)⟩ : TEnd).waits.map TDesc.c))], 6⟩, Conv.keep [2, 3, 5, 4, 7, 6] [] [6, 7, 8, 9, 26, 27, 28] rfl rfl (viewE_cons rfl rfl (viewE_cons rfl rfl (viewE_cons rfl rfl (viewE_cons rfl rfl (viewE_cons rfl rfl (viewE_cons rfl rfl (viewE_cons rfl rfl viewE_nil))))))) rfl rfl, 0, (⟨a0, ([b1.Last] : List TDesc)⟩ : TEnd), (⟨b1, ([a0.Last] : List TDesc)⟩ : TEnd), (by omega), rfl, hZ_15, rfl⟩ ?_
 rintro _ _ ⟨i28, x8, y9, hi_15, rfl, hL_15, rfl⟩ again_15 out_15 Q_15 hagain_15 hout_15 hQ_15
 refine WK.sr mixed ?_
 refine GX.q (.bool (decide ((i28 : Int) < (fates2.length : Int)))) ?_
 refine GX.done ?_
 refine WK.seq ?_
 rcases bool_two (decide ((i28 : Int) < (fates2.length : Int))) with hb16 | hb16
 ·rw [hb16]
  rw [drop_end hb16, F19_exch_Run_l1] at hL_15
  refine WK.condF rfl ?_
  refine WK.exit ?_
  refine QF.exit (hout_15 _ ?_)
  subst hL_15
  try dsimp only [cond_true, cond_false] at hR
  refine WK.seq ?_
  refine WK.drawn mixed ?_
  refine RD.m rfl ?_
  iterate 2 refine RD.q (.ptr 2 0) ?_
  refine RD.q (.agg [.int .u32 x8.s.Own, .int .u32 x8.s.Peer, .int .i64 x8.s.Phase, .bool x8.s.Leads, .int .u32 x8.s.Seq, .ro 8 (x8.s.Left.map THeader.c), .ro 8 (x8.s.Got.map THeader.c), .int .i64 x8.s.Last.MTU, .int .i64 x8.s.Last.Options, .bool x8.s.Last.Init, .bool x8.s.Last.More, .bool x8.s.Last.Master, .int .u32 x8.s.Last.Seq, .ro 8 (x8.s.Last.Heads.map THeader.c)]) ?_
  refine RD.m rfl ?_
  iterate 2 refine RD.q (.ptr 4 0) ?_
  refine RD.q (.agg [.int .u32 y9.s.Own, .int .u32 y9.s.Peer, .int .i64 y9.s.Phase, .bool y9.s.Leads, .int .u32 y9.s.Seq, .ro 8 (y9.s.Left.map THeader.c), .ro 8 (y9.s.Got.map THeader.c), .int .i64 y9.s.Last.MTU, .int .i64 y9.s.Last.Options, .bool y9.s.Last.Init, .bool y9.s.Last.More, .bool y9.s.Last.Master, .int .u32 y9.s.Last.Seq, .ro 8 (y9.s.Last.Heads.map THeader.c)]) ?_
  refine RD.step0 (heap' := [(0, .box (TSession.c x8.s)), (1, .box [.int .u32 0, .int .u32 0, .int .i64 0, .bool false, .int .u32 0, .nils, .nils, .int .i64 0, .int .i64 0, .bool false, .bool false, .bool false, .int .u32 0, .nils]), (2, .box [.int .u32 x8.s.Own, .int .u32 x8.s.Peer, .int .i64 x8.s.Phase, .bool x8.s.Leads, .int .u32 x8.s.Seq, .ro 8 (x8.s.Left.map THeader.c), .ro 8 (x8.s.Got.map THeader.c), .int .i64 x8.s.Last.MTU, .int .i64 x8.s.Last.Options, .bool x8.s.Last.Init, .bool x8.s.Last.More, .bool x8.s.Last.Master, .int .u32 x8.s.Last.Seq, .ro 8 (x8.s.Last.Heads.map THeader.c), .own 3 7 0 x8.waits.length]), (3, .row 7 29 (x8.waits.map TDesc.c)), (4, .box [.int .u32 y9.s.Own, .int .u32 y9.s.Peer, .int .i64 y9.s.Phase, .bool y9.s.Leads, .int .u32 y9.s.Seq, .ro 8 (y9.s.Left.map THeader.c), .ro 8 (y9.s.Got.map THeader.c), .int .i64 y9.s.Last.MTU, .int .i64 y9.s.Last.Options, .bool y9.s.Last.Init, .bool y9.s.Last.More, .bool y9.s.Last.Master, .int .u32 y9.s.Last.Seq, .ro 8 (y9.s.Last.Heads.map THeader.c), .own 5 7 0 y9.waits.length]), (5, .row 7 29 (y9.waits.map TDesc.c))]) (next' := 6) rfl rfl rfl rfl rfl ?_
  refine RD.step0 (heap' := [(0, .box (TSession.c x8.s)), (1, .box (TSession.c y9.s)), (2, .box [.int .u32 x8.s.Own, .int .u32 x8.s.Peer, .int .i64 x8.s.Phase, .bool x8.s.Leads, .int .u32 x8.s.Seq, .ro 8 (x8.s.Left.map THeader.c), .ro 8 (x8.s.Got.map THeader.c), .int .i64 x8.s.Last.MTU, .int .i64 x8.s.Last.Options, .bool x8.s.Last.Init, .bool x8.s.Last.More, .bool x8.s.Last.Master, .int .u32 x8.s.Last.Seq, .ro 8 (x8.s.Last.Heads.map THeader.c), .own 3 7 0 x8.waits.length]), (3, .row 7 29 (x8.waits.map TDesc.c)), (4, .box [.int .u32 y9.s.Own, .int .u32 y9.s.Peer, .int .i64 y9.s.Phase, .bool y9.s.Leads, .int .u32 y9.s.Seq, .ro 8 (y9.s.Left.map THeader.c), .ro 8 (y9.s.Got.map THeader.c), .int .i64 y9.s.Last.MTU, .int .i64 y9.s.Last.Options, .bool y9.s.Last.Init, .bool y9.s.Last.More, .bool y9.s.Last.Master, .int .u32 y9.s.Last.Seq, .ro 8 (y9.s.Last.Heads.map THeader.c), .own 5 7 0 y9.waits.length]), (5, .row 7 29 (y9.waits.map TDesc.c))]) (next' := 6) rfl rfl rfl rfl rfl ?_
  refine RD.done rfl ?_
  refine WK.ret ?_
  obtain rfl := Option.some.inj hR
  exact RetQ.fr [] (.inr rfl) rfl rfl rfl rfl
 ·rw [hb16]
  obtain ⟨x28, hx15, hd15, hlt15⟩ := drop_more hb16
  rw [hd15, F19_exch_Run_l1] at hL_15
  refine WK.condT rfl ?_
  refine WK.skip ?_
  refine WK.seq ?_
  refine WK.blockK (fun _ hK17 => ?_)
  refine WK.sr mixed ?_
  refine GX.idxT (c := c_i64) (x := x28) rfl rfl rfl (Int.natCast_nonneg _) hx15 ?_
  refine GX.q (.int .i64 x28) ?_
  refine GX.m rfl ?_
  refine GX.done ?_
  refine WK.sr mixed ?_
  iterate 4 refine GX.m rfl ?_
  refine GX.done ?_
  refine WK.seq ?_
  refine WK.sr mixed ?_
  refine GX.m rfl ?_
  refine GX.q (.int .i64 (bit_and .i64 x28 1)) ?_
  refine GX.q (.bool (!decide (bit_and .i64 x28 1 = 0))) ?_
  refine GX.done ?_
  rcases bool_two (decide (bit_and .i64 x28 1 = 0)) with hb18 | hb18
  ·rw [hb18]; try simp only [hb18, bb] at hL_15
   refine WK.condT rfl ?_
   refine WK.regx mixed ?_
   iterate 4 refine GX.m rfl ?_
   refine GX.done ?_
   refine WK.sr mixed ?_
   refine GX.m rfl ?_
   refine GX.done ?_
   refine WK.blockK (fun _ hK19 => ?_)
   refine WK.seq ?_
   refine WK.sr mixed ?_
   refine GX.q (.bool (decide (x28 = 0))) ?_
   refine GX.m rfl ?_
   refine GX.done ?_
   rcases bool_two (decide (x28 = 0)) with hb20 | hb20
   ·rw [hb20]; try simp only [hb20, bb] at hL_15
    refine WK.condF rfl ?_
    refine WK.regx mixed ?_
    refine GX.q (.bool (decide (x28 = 1))) ?_
    refine GX.m rfl ?_
    refine GX.done ?_
    rcases bool_two (decide (x28 = 1)) with hb21 | hb21
    ·rw [hb21]; try simp only [hb21, bb] at hL_15
     refine WK.condF rfl ?_
     refine WK.seq ?_
     refine WK.sr mixed ?_
     refine GX.q (.bool (decide (x28 = 2))) ?_
     refine GX.m rfl ?_
     refine GX.done ?_
     rcases bool_two (decide (x28 = 2)) with hb22 | hb22
     ·rw [hb22]; try simp only [hb22, bb] at hL_15
      refine WK.condF rfl ?_
      refine WK.regx mixed ?_
      refine GX.q (.bool (decide (x28 = 3))) ?_
      refine GX.m rfl ?_
      refine GX.done ?_
      rcases bool_two (decide (x28 = 3)) with hb23 | hb23
      ·rw [hb23]; try simp only [hb23, bb] at hL_15
       refine WK.condF rfl ?_
       refine WK.seq ?_
       refine WK.sr mixed ?_
       refine GX.q (.bool (decide (x28 = 4))) ?_
       refine GX.m rfl ?_
       refine GX.done ?_
       rcases bool_two (decide (x28 = 4)) with hb24 | hb24
       ·rw [hb24]; try simp only [hb24, bb] at hL_15
        refine WK.condF rfl ?_
        refine WK.regx mixed ?_
        refine GX.q (.bool (decide (x28 = 5))) ?_
        refine GX.m rfl ?_
        refine GX.done ?_
        rcases bool_two (decide (x28 = 5)) with hb25 | hb25
        ·rw [hb25]; try simp only [hb25, bb] at hL_15
         refine WK.condF rfl ?_
         refine WK.seq ?_
         refine WK.sr mixed ?_
         refine GX.q (.bool (decide (x28 = 6))) ?_
         refine GX.m rfl ?_
         refine GX.done ?_
         rcases bool_two (decide (x28 = 6)) with hb26 | hb26
         ·rw [hb26]; try simp only [hb26, bb] at hL_15
          refine WK.condF rfl ?_
          refine WK.regx mixed ?_
          refine GX.q (.bool (decide (x28 = 7))) ?_
          refine GX.m rfl ?_
          refine GX.done ?_
          rcases bool_two (decide (x28 = 7)) with hb27 | hb27
          ·rw [hb27]; try simp only [hb27, bb] at hL_15
           refine WK.condF rfl ?_
           refine WK.skip ?_
           refine WK.nil (QF.normal (hK19 _ ?_))
           refine WK.nil (QF.normal (hK17 _ ?_))
           refine WK.regx mixed ?_
           refine GX.pure (v' := .int .i64 ((i28 + 1 : Nat) : Int)) rfl rfl rfl rfl (congrArg (PVal.int .i64) (wrap_up hlt15 hlen_15)) ?_
           refine GX.m rfl ?_
           refine GX.done ?_
           refine WK.nil (QF.normal ?_)
           exact hagain_15 _ (fates2.length - (i28 + 1)) ⟨[(6, .ptr 0 0), (7, .ptr 1 0), (8, .ptr 2 0), (9, .ptr 4 0), (26, .ro 1 (fates2.map c_i64)), (27, .int .i64 (fates2.length : Int)), (28, .int .i64 ((i28 + 1) : Int))], [(0, .box [.int .u32 0, .int .u32 0, .int .i64 0, .bool false, .int .u32 0, .nils, .nils, .int .i64 0, .int .i64 0, .bool false, .bool false, .bool false, .int .u32 0, .nils]), (1, .box [.int .u32 0, .int .u32 0, .int .i64 0, .bool false, .int .u32 0, .nils, .nils, .int .i64 0, .int .i64 0, .bool false, .bool false, .bool false, .int .u32 0, .nils]), (2, .box [.int .u32 x8.s.Own, .int .u32 x8.s.Peer, .int .i64 x8.s.Phase, .bool x8.s.Leads, .int .u32 x8.s.Seq, .ro 8 (x8.s.Left.map THeader.c), .ro 8 (x8.s.Got.map THeader.c), .int .i64 x8.s.Last.MTU, .int .i64 x8.s.Last.Options, .bool x8.s.Last.Init, .bool x8.s.Last.More, .bool x8.s.Last.Master, .int .u32 x8.s.Last.Seq, .ro 8 (x8.s.Last.Heads.map THeader.c), .own 3 7 0 x8.waits.length]), (3, .row 7 29 (x8.waits.map TDesc.c)), (4, .box [.int .u32 y9.s.Own, .int .u32 y9.s.Peer, .int .i64 y9.s.Phase, .bool y9.s.Leads, .int .u32 y9.s.Seq, .ro 8 (y9.s.Left.map THeader.c), .ro 8 (y9.s.Got.map THeader.c), .int .i64 y9.s.Last.MTU, .int .i64 y9.s.Last.Options, .bool y9.s.Last.Init, .bool y9.s.Last.More, .bool y9.s.Last.Master, .int .u32 y9.s.Last.Seq, .ro 8 (y9.s.Last.Heads.map THeader.c), .own 5 7 0 y9.waits.length]), (5, .row 7 29 (y9.waits.map TDesc.c))], 6⟩ (by omega) (Conv.keep [0, 1, 2, 3, 4, 5] [] [6, 7, 8, 9, 26, 27, 28] rfl rfl (viewE_cons rfl rfl (viewE_cons rfl rfl (viewE_cons rfl rfl (viewE_cons rfl rfl (viewE_cons rfl rfl (viewE_cons rfl rfl (viewE_cons rfl rfl viewE_nil))))))) rfl rfl) ⟨i28 + 1, x8, y9, (by omega), rfl, hL_15, rfl⟩
          ·rw [hb27]; try simp only [hb27, bb] at hL_15
           refine WK.condT rfl ?_
           refine WK.regx mixed ?_
           iterate 2 refine GX.m rfl ?_
           generalize hc62 : F32_exch_end_hear y9 x8 true = c62 at hL_15
           rcases c62 with _ | c62
           ·try dsimp only at hL_15
            subst hL_15
            try dsimp only at hR
            cases hR
           try dsimp only at hL_15
           obtain ⟨c62a, c62b⟩ := c62; try dsimp only at hL_15
           refine GX.callx (r' := .tup []) (heap' := [(0, .box [.int .u32 0, .int .u32 0, .int .i64 0, .bool false, .int .u32 0, .nils, .nils, .int .i64 0, .int .i64 0, .bool false, .bool false, .bool false, .int .u32 0, .nils]), (1, .box [.int .u32 0, .int .u32 0, .int .i64 0, .bool false, .int .u32 0, .nils, .nils, .int .i64 0, .int .i64 0, .bool false, .bool false, .bool false, .int .u32 0, .nils]), (2, .box [.int .u32 c62b.s.Own, .int .u32 c62b.s.Peer, .int .i64 c62b.s.Phase, .bool c62b.s.Leads, .int .u32 c62b.s.Seq, .ro 8 (c62b.s.Left.map THeader.c), .ro 8 (c62b.s.Got.map THeader.c), .int .i64 c62b.s.Last.MTU, .int .i64 c62b.s.Last.Options, .bool c62b.s.Last.Init, .bool c62b.s.Last.More, .bool c62b.s.Last.Master, .int .u32 c62b.s.Last.Seq, .ro 8 (c62b.s.Last.Heads.map THeader.c), .own 7 7 0 c62b.waits.length]), (4, .box [.int .u32 c62a.s.Own, .int .u32 c62a.s.Peer, .int .i64 c62a.s.Phase, .bool c62a.s.Leads, .int .u32 c62a.s.Seq, .ro 8 (c62a.s.Left.map THeader.c), .ro 8 (c62a.s.Got.map THeader.c), .int .i64 c62a.s.Last.MTU, .int .i64 c62a.s.Last.Options, .bool c62a.s.Last.Init, .bool c62a.s.Last.More, .bool c62a.s.Last.Master, .int .u32 c62a.s.Last.Seq, .ro 8 (c62a.s.Last.Heads.map THeader.c), .own 6 7 0 c62a.waits.length]), (7, .row 7 29 (c62b.waits.map TDesc.c)), (6, .row 7 29 (c62a.waits.map TDesc.c))]) (next' := 8) [4, 2, 5, 3] [] rfl rfl rfl rfl rfl rfl (f32_ok y9 x8 true _ hc62) (.inl rfl) rfl rfl rfl ?_
           refine GX.done ?_
           refine WK.nil (QF.normal (hK19 _ ?_))
           refine WK.nil (QF.normal (hK17 _ ?_))
           refine WK.regx mixed ?_
           refine GX.pure (v' := .int .i64 ((i28 + 1 : Nat) : Int)) rfl rfl rfl rfl (congrArg (PVal.int .i64) (wrap_up hlt15 hlen_15)) ?_
           refine GX.m rfl ?_
           refine GX.done ?_
           refine WK.nil (QF.normal ?_)
           exact hagain_15 _ (fates2.length - (i28 + 1)) ⟨[(6, .ptr 0 0), (7, .ptr 1 0), (8, .ptr 2 0), (9, .ptr 4 0), (26, .ro 1 (fates2.map c_i64)), (27, .int .i64 (fates2.length : Int)), (28, .int .i64 ((i28 + 1) : Int))], [(0, .box [.int .u32 0, .int .u32 0, .int .i64 0, .bool false, .int .u32 0, .nils, .nils, .int .i64 0, .int .i64 0, .bool false, .bool false, .bool false, .int .u32 0, .nils]), (1, .box [.int .u32 0, .int .u32 0, .int .i64 0, .bool false, .int .u32 0, .nils, .nils, .int .i64 0, .int .i64 0, .bool false, .bool false, .bool false, .int .u32 0, .nils]), (2, .box [.int .u32 c62b.s.Own, .int .u32 c62b.s.Peer, .int .i64 c62b.s.Phase, .bool c62b.s.Leads, .int .u32 c62b.s.Seq, .ro 8 (c62b.s.Left.map THeader.c), .ro 8 (c62b.s.Got.map THeader.c), .int .i64 c62b.s.Last.MTU, .int .i64 c62b.s.Last.Options, .bool c62b.s.Last.Init, .bool c62b.s.Last.More, .bool c62b.s.Last.Master, .int .u32 c62b.s.Last.Seq, .ro 8 (c62b.s.Last.Heads.map THeader.c), .own 3 7 0 c62b.waits.length]), (3, .row 7 29 (c62b.waits.map TDesc.c)), (4, .box [.int .u32 c62a.s.Own, .int .u32 c62a.s.Peer, .int .i64 c62a.s.Phase, .bool c62a.s.Leads, .int .u32 c62a.s.Seq, .ro 8 (c62a.s.Left.map THeader.c), .ro 8 (c62a.s.Got.map THeader.c), .int .i64 c62a.s.Last.MTU, .int .i64 c62a.s.Last.Options, .bool c62a.s.Last.Init, .bool c62a.s.Last.More, .bool c62a.s.Last.Master, .int .u32 c62a.s.Last.Seq, .ro 8 (c62a.s.Last.Heads.map THeader.c), .own 5 7 0 c62a.waits.length]), (5, .row 7 29 (c62a.waits.map TDesc.c))], 6⟩ (by omega) (Conv.keep [0, 1, 2, 7, 4, 6] [] [6, 7, 8, 9, 26, 27, 28] rfl rfl (viewE_cons rfl rfl (viewE_cons rfl rfl (viewE_cons rfl rfl (viewE_cons rfl rfl (viewE_cons rfl rfl (viewE_cons rfl rfl (viewE_cons rfl rfl viewE_nil))))))) rfl rfl) ⟨i28 + 1, c62b, c62a, (by omega), rfl, hL_15, rfl⟩
         ·rw [hb26]; try simp only [hb26, bb] at hL_15
          refine WK.condT rfl ?_
          refine WK.skip ?_
          refine WK.condT rfl ?_
          refine WK.regx mixed ?_
          iterate 2 refine GX.m rfl ?_
          generalize hc62 : F32_exch_end_hear y9 x8 true = c62 at hL_15
          rcases c62 with _ | c62
          ·try dsimp only at hL_15
           subst hL_15
           try dsimp only at hR
           cases hR
          try dsimp only at hL_15
          obtain ⟨c62a, c62b⟩ := c62; try dsimp only at hL_15
          refine GX.callx (r' := .tup []) (heap' := [(0, .box [.int .u32 0, .int .u32 0, .int .i64 0, .bool false, .int .u32 0, .nils, .nils, .int .i64 0, .int .i64 0, .bool false, .bool false, .bool false, .int .u32 0, .nils]), (1, .box [.int .u32 0, .int .u32 0, .int .i64 0, .bool false, .int .u32 0, .nils, .nils, .int .i64 0, .int .i64 0, .bool false, .bool false, .bool false, .int .u32 0, .nils]), (2, .box [.int .u32 c62b.s.Own, .int .u32 c62b.s.Peer, .int .i64 c62b.s.Phase, .bool c62b.s.Leads, .int .u32 c62b.s.Seq, .ro 8 (c62b.s.Left.map THeader.c), .ro 8 (c62b.s.Got.map THeader.c), .int .i64 c62b.s.Last.MTU, .int .i64 c62b.s.Last.Options, .bool c62b.s.Last.Init, .bool c62b.s.Last.More, .bool c62b.s.Last.Master, .int .u32 c62b.s.Last.Seq, .ro 8 (c62b.s.Last.Heads.map THeader.c), .own 7 7 0 c62b.waits.length]), (4, .box [.int .u32 c62a.s.Own, .int .u32 c62a.s.Peer, .int .i64 c62a.s.Phase, .bool c62a.s.Leads, .int .u32 c62a.s.Seq, .ro 8 (c62a.s.Left.map THeader.c), .ro 8 (c62a.s.Got.map THeader.c), .int .i64 c62a.s.Last.MTU, .int .i64 c62a.s.Last.Options, .bool c62a.s.Last.Init, .bool c62a.s.Last.More, .bool c62a.s.Last.Master, .int .u32 c62a.s.Last.Seq, .ro 8 (c62a.s.Last.Heads.map THeader.c), .own 6 7 0 c62a.waits.length]), (7, .row 7 29 (c62b.waits.map TDesc.c)), (6, .row 7 29 (c62a.waits.map TDesc.c))]) (next' := 8) [4, 2, 5, 3] [] rfl rfl rfl rfl rfl rfl (f32_ok y9 x8 true _ hc62) (.inl rfl) rfl rfl rfl ?_
          refine GX.done ?_
          refine WK.nil (QF.normal (hK19 _ ?_))
          refine WK.nil (QF.normal (hK17 _ ?_))
          refine WK.regx mixed ?_
          refine GX.pure (v' := .int .i64 ((i28 + 1 : Nat) : Int)) rfl rfl rfl rfl (congrArg (PVal.int .i64) (wrap_up hlt15 hlen_15)) ?_
          refine GX.m rfl ?_
          refine GX.done ?_
          refine WK.nil (QF.normal ?_)
          exact hagain_15 _ (fates2.length - (i28 + 1)) ⟨[(6, .ptr 0 0), (7, .ptr 1 0), (8, .ptr 2 0), (9, .ptr 4 0), (26, .ro 1 (fates2.map c_i64)), (27, .int .i64 (fates2.length : Int)), (28, .int .i64 ((i28 + 1) : Int))], [(0, .box [.int .u32 0, .int .u32 0, .int .i64 0, .bool false, .int .u32 0, .nils, .nils, .int .i64 0, .int .i64 0, .bool false, .bool false, .bool false, .int .u32 0, .nils]), (1, .box [.int .u32 0, .int .u32 0, .int .i64 0, .bool false, .int .u32 0, .nils, .nils, .int .i64 0, .int .i64 0, .bool false, .bool false, .bool false, .int .u32 0, .nils]), (2, .box [.int .u32 c62b.s.Own, .int .u32 c62b.s.Peer, .int .i64 c62b.s.Phase, .bool c62b.s.Leads, .int .u32 c62b.s.Seq, .ro 8 (c62b.s.Left.map THeader.c), .ro 8 (c62b.s.Got.map THeader.c), .int .i64 c62b.s.Last.MTU, .int .i64 c62b.s.Last.Options, .bool c62b.s.Last.Init, .bool c62b.s.Last.More, .bool c62b.s.Last.Master, .int .u32 c62b.s.Last.Seq, .ro 8 (c62b.s.Last.Heads.map THeader.c), .own 3 7 0 c62b.waits.length]), (3, .row 7 29 (c62b.waits.map TDesc.c)), (4, .box [.int .u32 c62a.s.Own, .int .u32 c62a.s.Peer, .int .i64 c62a.s.Phase, .bool c62a.s.Leads, .int .u32 c62a.s.Seq, .ro 8 (c62a.s.Left.map THeader.c), .ro 8 (c62a.s.Got.map THeader.c), .int .i64 c62a.s.Last.MTU, .int .i64 c62a.s.Last.Options, .bool c62a.s.Last.Init, .bool c62a.s.Last.More, .bool c62a.s.Last.Master, .int .u32 c62a.s.Last.Seq, .ro 8 (c62a.s.Last.Heads.map THeader.c), .own 5 7 0 c62a.waits.length]), (5, .row 7 29 (c62a.waits.map TDesc.c))], 6⟩ (by omega) (Conv.keep [0, 1, 2, 7, 4, 6] [] [6, 7, 8, 9, 26, 27, 28] rfl rfl (viewE_cons rfl rfl (viewE_cons rfl rfl (viewE_cons rfl rfl (viewE_cons rfl rfl (viewE_cons rfl rfl (viewE_cons rfl rfl (viewE_cons rfl rfl viewE_nil))))))) rfl rfl) ⟨i28 + 1, c62b, c62a, (by omega), rfl, hL_15, rfl⟩
        ·rw [hb25]; try simp only [hb25, bb] at hL_15
         refine WK.condT rfl ?_
         refine WK.regx mixed ?_
         iterate 2 refine GX.m rfl ?_
         generalize hc56 : F34_exch_end_remind y9 x8 = c56 at hL_15
         rcases c56 with _ | c56
         ·try dsimp only at hL_15
          subst hL_15
          try dsimp only at hR
          cases hR
         try dsimp only at hL_15
         obtain ⟨c56a, c56b⟩ := c56; try dsimp only at hL_15
         refine GX.callx (r' := .tup []) (heap' := [(0, .box [.int .u32 0, .int .u32 0, .int .i64 0, .bool false, .int .u32 0, .nils, .nils, .int .i64 0, .int .i64 0, .bool false, .bool false, .bool false, .int .u32 0, .nils]), (1, .box [.int .u32 0, .int .u32 0, .int .i64 0, .bool false, .int .u32 0, .nils, .nils, .int .i64 0, .int .i64 0, .bool false, .bool false, .bool false, .int .u32 0, .nils]), (2, .box [.int .u32 c56b.s.Own, .int .u32 c56b.s.Peer, .int .i64 c56b.s.Phase, .bool c56b.s.Leads, .int .u32 c56b.s.Seq, .ro 8 (c56b.s.Left.map THeader.c), .ro 8 (c56b.s.Got.map THeader.c), .int .i64 c56b.s.Last.MTU, .int .i64 c56b.s.Last.Options, .bool c56b.s.Last.Init, .bool c56b.s.Last.More, .bool c56b.s.Last.Master, .int .u32 c56b.s.Last.Seq, .ro 8 (c56b.s.Last.Heads.map THeader.c), .own 7 7 0 c56b.waits.length]), (4, .box [.int .u32 c56a.s.Own, .int .u32 c56a.s.Peer, .int .i64 c56a.s.Phase, .bool c56a.s.Leads, .int .u32 c56a.s.Seq, .ro 8 (c56a.s.Left.map THeader.c), .ro 8 (c56a.s.Got.map THeader.c), .int .i64 c56a.s.Last.MTU, .int .i64 c56a.s.Last.Options, .bool c56a.s.Last.Init, .bool c56a.s.Last.More, .bool c56a.s.Last.Master, .int .u32 c56a.s.Last.Seq, .ro 8 (c56a.s.Last.Heads.map THeader.c), .own 6 7 0 c56a.waits.length]), (7, .row 7 29 (c56b.waits.map TDesc.c)), (6, .row 7 29 (c56a.waits.map TDesc.c))]) (next' := 8) [4, 2, 5, 3] [] rfl rfl rfl rfl rfl rfl (f34_ok y9 x8 _ hc56) (.inl rfl) rfl rfl rfl ?_
         refine GX.done ?_
         refine WK.nil (QF.normal (hK19 _ ?_))
         refine WK.nil (QF.normal (hK17 _ ?_))
         refine WK.regx mixed ?_
         refine GX.pure (v' := .int .i64 ((i28 + 1 : Nat) : Int)) rfl rfl rfl rfl (congrArg (PVal.int .i64) (wrap_up hlt15 hlen_15)) ?_
         refine GX.m rfl ?_
         refine GX.done ?_
         refine WK.nil (QF.normal ?_)
         exact hagain_15 _ (fates2.length - (i28 + 1)) ⟨[(6, .ptr 0 0), (7, .ptr 1 0), (8, .ptr 2 0), (9, .ptr 4 0), (26, .ro 1 (fates2.map c_i64)), (27, .int .i64 (fates2.length : Int)), (28, .int .i64 ((i28 + 1) : Int))], [(0, .box [.int .u32 0, .int .u32 0, .int .i64 0, .bool false, .int .u32 0, .nils, .nils, .int .i64 0, .int .i64 0, .bool false, .bool false, .bool false, .int .u32 0, .nils]), (1, .box [.int .u32 0, .int .u32 0, .int .i64 0, .bool false, .int .u32 0, .nils, .nils, .int .i64 0, .int .i64 0, .bool false, .bool false, .bool false, .int .u32 0, .nils]), (2, .box [.int .u32 c56b.s.Own, .int .u32 c56b.s.Peer, .int .i64 c56b.s.Phase, .bool c56b.s.Leads, .int .u32 c56b.s.Seq, .ro 8 (c56b.s.Left.map THeader.c), .ro 8 (c56b.s.Got.map THeader.c), .int .i64 c56b.s.Last.MTU, .int .i64 c56b.s.Last.Options, .bool c56b.s.Last.Init, .bool c56b.s.Last.More, .bool c56b.s.Last.Master, .int .u32 c56b.s.Last.Seq, .ro 8 (c56b.s.Last.Heads.map THeader.c), .own 3 7 0 c56b.waits.length]), (3, .row 7 29 (c56b.waits.map TDesc.c)), (4, .box [.int .u32 c56a.s.Own, .int .u32 c56a.s.Peer, .int .i64 c56a.s.Phase, .bool c56a.s.Leads, .int .u32 c56a.s.Seq, .ro 8 (c56a.s.Left.map THeader.c), .ro 8 (c56a.s.Got.map THeader.c), .int .i64 c56a.s.Last.MTU, .int .i64 c56a.s.Last.Options, .bool c56a.s.Last.Init, .bool c56a.s.Last.More, .bool c56a.s.Last.Master, .int .u32 c56a.s.Last.Seq, .ro 8 (c56a.s.Last.Heads.map THeader.c), .own 5 7 0 c56a.waits.length]), (5, .row 7 29 (c56a.waits.map TDesc.c))], 6⟩ (by omega) (Conv.keep [0, 1, 2, 7, 4, 6] [] [6, 7, 8, 9, 26, 27, 28] rfl rfl (viewE_cons rfl rfl (viewE_cons rfl rfl (viewE_cons rfl rfl (viewE_cons rfl rfl (viewE_cons rfl rfl (viewE_cons rfl rfl (viewE_cons rfl rfl viewE_nil))))))) rfl rfl) ⟨i28 + 1, c56b, c56a, (by omega), rfl, hL_15, rfl⟩
       ·rw [hb24]; try simp only [hb24, bb] at hL_15
        refine WK.condT rfl ?_
        refine WK.skip ?_
        refine WK.condT rfl ?_
        refine WK.regx mixed ?_
        iterate 2 refine GX.m rfl ?_
        generalize hc56 : F34_exch_end_remind y9 x8 = c56 at hL_15
        rcases c56 with _ | c56
        ·try dsimp only at hL_15
         subst hL_15
         try dsimp only at hR
         cases hR
        try dsimp only at hL_15
        obtain ⟨c56a, c56b⟩ := c56; try dsimp only at hL_15
        refine GX.callx (r' := .tup []) (heap' := [(0, .box [.int .u32 0, .int .u32 0, .int .i64 0, .bool false, .int .u32 0, .nils, .nils, .int .i64 0, .int .i64 0, .bool false, .bool false, .bool false, .int .u32 0, .nils]), (1, .box [.int .u32 0, .int .u32 0, .int .i64 0, .bool false, .int .u32 0, .nils, .nils, .int .i64 0, .int .i64 0, .bool false, .bool false, .bool false, .int .u32 0, .nils]), (2, .box [.int .u32 c56b.s.Own, .int .u32 c56b.s.Peer, .int .i64 c56b.s.Phase, .bool c56b.s.Leads, .int .u32 c56b.s.Seq, .ro 8 (c56b.s.Left.map THeader.c), .ro 8 (c56b.s.Got.map THeader.c), .int .i64 c56b.s.Last.MTU, .int .i64 c56b.s.Last.Options, .bool c56b.s.Last.Init, .bool c56b.s.Last.More, .bool c56b.s.Last.Master, .int .u32 c56b.s.Last.Seq, .ro 8 (c56b.s.Last.Heads.map THeader.c), .own 7 7 0 c56b.waits.length]), (4, .box [.int .u32 c56a.s.Own, .int .u32 c56a.s.Peer, .int .i64 c56a.s.Phase, .bool c56a.s.Leads, .int .u32 c56a.s.Seq, .ro 8 (c56a.s.Left.map THeader.c), .ro 8 (c56a.s.Got.map THeader.c), .int .i64 c56a.s.Last.MTU, .int .i64 c56a.s.Last.Options, .bool c56a.s.Last.Init, .bool c56a.s.Last.More, .bool c56a.s.Last.Master, .int .u32 c56a.s.Last.Seq, .ro 8 (c56a.s.Last.Heads.map THeader.c), .own 6 7 0 c56a.waits.length]), (7, .row 7 29 (c56b.waits.map TDesc.c)), (6, .row 7 29 (c56a.waits.map TDesc.c))]) (next' := 8) [4, 2, 5, 3] [] rfl rfl rfl rfl rfl rfl (f34_ok y9 x8 _ hc56) (.inl rfl) rfl rfl rfl ?_
        refine GX.done ?_
        refine WK.nil (QF.normal (hK19 _ ?_))
        refine WK.nil (QF.normal (hK17 _ ?_))
        refine WK.regx mixed ?_
        refine GX.pure (v' := .int .i64 ((i28 + 1 : Nat) : Int)) rfl rfl rfl rfl (congrArg (PVal.int .i64) (wrap_up hlt15 hlen_15)) ?_
        refine GX.m rfl ?_
        refine GX.done ?_
        refine WK.nil (QF.normal ?_)
        exact hagain_15 _ (fates2.length - (i28 + 1)) ⟨[(6, .ptr 0 0), (7, .ptr 1 0), (8, .ptr 2 0), (9, .ptr 4 0), (26, .ro 1 (fates2.map c_i64)), (27, .int .i64 (fates2.length : Int)), (28, .int .i64 ((i28 + 1) : Int))], [(0, .box [.int .u32 0, .int .u32 0, .int .i64 0, .bool false, .int .u32 0, .nils, .nils, .int .i64 0, .int .i64 0, .bool false, .bool false, .bool false, .int .u32 0, .nils]), (1, .box [.int .u32 0, .int .u32 0, .int .i64 0, .bool false, .int .u32 0, .nils, .nils, .int .i64 0, .int .i64 0, .bool false, .bool false, .bool false, .int .u32 0, .nils]), (2, .box [.int .u32 c56b.s.Own, .int .u32 c56b.s.Peer, .int .i64 c56b.s.Phase, .bool c56b.s.Leads, .int .u32 c56b.s.Seq, .ro 8 (c56b.s.Left.map THeader.c), .ro 8 (c56b.s.Got.map THeader.c), .int .i64 c56b.s.Last.MTU, .int .i64 c56b.s.Last.Options, .bool c56b.s.Last.Init, .bool c56b.s.Last.More, .bool c56b.s.Last.Master, .int .u32 c56b.s.Last.Seq, .ro 8 (c56b.s.Last.Heads.map THeader.c), .own 3 7 0 c56b.waits.length]), (3, .row 7 29 (c56b.waits.map TDesc.c)), (4, .box [.int .u32 c56a.s.Own, .int .u32 c56a.s.Peer, .int .i64 c56a.s.Phase, .bool c56a.s.Leads, .int .u32 c56a.s.Seq, .ro 8 (c56a.s.Left.map THeader.c), .ro 8 (c56a.s.Got.map THeader.c), .int .i64 c56a.s.Last.MTU, .int .i64 c56a.s.Last.Options, .bool c56a.s.Last.Init, .bool c56a.s.Last.More, .bool c56a.s.Last.Master, .int .u32 c56a.s.Last.Seq, .ro 8 (c56a.s.Last.Heads.map THeader.c), .own 5 7 0 c56a.waits.length]), (5, .row 7 29 (c56a.waits.map TDesc.c))], 6⟩ (by omega) (Conv.keep [0, 1, 2, 7, 4, 6] [] [6, 7, 8, 9, 26, 27, 28] rfl rfl (viewE_cons rfl rfl (viewE_cons rfl rfl (viewE_cons rfl rfl (viewE_cons rfl rfl (viewE_cons rfl rfl (viewE_cons rfl rfl (viewE_cons rfl rfl viewE_nil))))))) rfl rfl) ⟨i28 + 1, c56b, c56a, (by omega), rfl, hL_15, rfl⟩
      ·rw [hb23]; try simp only [hb23, bb] at hL_15
       refine WK.condT rfl ?_
       refine WK.regx mixed ?_
       refine GX.m rfl ?_
       generalize hc50 : F33_exch_end_next y9 false = c50 at hL_15
       rcases c50 with _ | c50
       ·try dsimp only at hL_15
        subst hL_15
        try dsimp only at hR
        cases hR
       try dsimp only at hL_15
       obtain ⟨c50a, c50b, c50c⟩ := c50; try dsimp only at hL_15
       refine GX.callx (r' := .tup [.agg (TDesc.c c50a), .bool c50b]) (heap' := [(0, .box [.int .u32 0, .int .u32 0, .int .i64 0, .bool false, .int .u32 0, .nils, .nils, .int .i64 0, .int .i64 0, .bool false, .bool false, .bool false, .int .u32 0, .nils]), (1, .box [.int .u32 0, .int .u32 0, .int .i64 0, .bool false, .int .u32 0, .nils, .nils, .int .i64 0, .int .i64 0, .bool false, .bool false, .bool false, .int .u32 0, .nils]), (2, .box [.int .u32 x8.s.Own, .int .u32 x8.s.Peer, .int .i64 x8.s.Phase, .bool x8.s.Leads, .int .u32 x8.s.Seq, .ro 8 (x8.s.Left.map THeader.c), .ro 8 (x8.s.Got.map THeader.c), .int .i64 x8.s.Last.MTU, .int .i64 x8.s.Last.Options, .bool x8.s.Last.Init, .bool x8.s.Last.More, .bool x8.s.Last.Master, .int .u32 x8.s.Last.Seq, .ro 8 (x8.s.Last.Heads.map THeader.c), .own 3 7 0 x8.waits.length]), (3, .row 7 29 (x8.waits.map TDesc.c)), (4, .box [.int .u32 c50c.s.Own, .int .u32 c50c.s.Peer, .int .i64 c50c.s.Phase, .bool c50c.s.Leads, .int .u32 c50c.s.Seq, .ro 8 (c50c.s.Left.map THeader.c), .ro 8 (c50c.s.Got.map THeader.c), .int .i64 c50c.s.Last.MTU, .int .i64 c50c.s.Last.Options, .bool c50c.s.Last.Init, .bool c50c.s.Last.More, .bool c50c.s.Last.Master, .int .u32 c50c.s.Last.Seq, .ro 8 (c50c.s.Last.Heads.map THeader.c), .own 6 7 0 c50c.waits.length]), (6, .row 7 29 (c50c.waits.map TDesc.c))]) (next' := 7) [4, 5] [] rfl rfl rfl rfl rfl rfl (f33_ok y9 false _ hc50) (.inl rfl) rfl rfl rfl ?_
       refine GX.done ?_
       refine WK.nil (QF.normal (hK19 _ ?_))
       refine WK.nil (QF.normal (hK17 _ ?_))
       refine WK.regx mixed ?_
       refine GX.pure (v' := .int .i64 ((i28 + 1 : Nat) : Int)) rfl rfl rfl rfl (congrArg (PVal.int .i64) (wrap_up hlt15 hlen_15)) ?_
       refine GX.m rfl ?_
       refine GX.done ?_
       refine WK.nil (QF.normal ?_)
       exact hagain_15 _ (fates2.length - (i28 + 1)) ⟨[(6, .ptr 0 0), (7, .ptr 1 0), (8, .ptr 2 0), (9, .ptr 4 0), (26, .ro 1 (fates2.map c_i64)), (27, .int .i64 (fates2.length : Int)), (28, .int .i64 ((i28 + 1) : Int))], [(0, .box [.int .u32 0, .int .u32 0, .int .i64 0, .bool false, .int .u32 0, .nils, .nils, .int .i64 0, .int .i64 0, .bool false, .bool false, .bool false, .int .u32 0, .nils]), (1, .box [.int .u32 0, .int .u32 0, .int .i64 0, .bool false, .int .u32 0, .nils, .nils, .int .i64 0, .int .i64 0, .bool false, .bool false, .bool false, .int .u32 0, .nils]), (2, .box [.int .u32 x8.s.Own, .int .u32 x8.s.Peer, .int .i64 x8.s.Phase, .bool x8.s.Leads, .int .u32 x8.s.Seq, .ro 8 (x8.s.Left.map THeader.c), .ro 8 (x8.s.Got.map THeader.c), .int .i64 x8.s.Last.MTU, .int .i64 x8.s.Last.Options, .bool x8.s.Last.Init, .bool x8.s.Last.More, .bool x8.s.Last.Master, .int .u32 x8.s.Last.Seq, .ro 8 (x8.s.Last.Heads.map THeader.c), .own 3 7 0 x8.waits.length]), (3, .row 7 29 (x8.waits.map TDesc.c)), (4, .box [.int .u32 c50c.s.Own, .int .u32 c50c.s.Peer, .int .i64 c50c.s.Phase, .bool c50c.s.Leads, .int .u32 c50c.s.Seq, .ro 8 (c50c.s.Left.map THeader.c), .ro 8 (c50c.s.Got.map THeader.c), .int .i64 c50c.s.Last.MTU, .int .i64 c50c.s.Last.Options, .bool c50c.s.Last.Init, .bool c50c.s.Last.More, .bool c50c.s.Last.Master, .int .u32 c50c.s.Last.Seq, .ro 8 (c50c.s.Last.Heads.map THeader.c), .own 5 7 0 c50c.waits.length]), (5, .row 7 29 (c50c.waits.map TDesc.c))], 6⟩ (by omega) (Conv.keep [0, 1, 2, 3, 4, 6] [] [6, 7, 8, 9, 26, 27, 28] rfl rfl (viewE_cons rfl rfl (viewE_cons rfl rfl (viewE_cons rfl rfl (viewE_cons rfl rfl (viewE_cons rfl rfl (viewE_cons rfl rfl (viewE_cons rfl rfl viewE_nil))))))) rfl rfl) ⟨i28 + 1, x8, c50c, (by omega), rfl, hL_15, rfl⟩
     ·rw [hb22]; try simp only [hb22, bb] at hL_15
      refine WK.condT rfl ?_
      refine WK.skip ?_
      refine WK.condT rfl ?_
      refine WK.regx mixed ?_
      refine GX.m rfl ?_
      generalize hc50 : F33_exch_end_next y9 false = c50 at hL_15
      rcases c50 with _ | c50
      ·try dsimp only at hL_15
       subst hL_15
       try dsimp only at hR
       cases hR
      try dsimp only at hL_15
      obtain ⟨c50a, c50b, c50c⟩ := c50; try dsimp only at hL_15
      refine GX.callx (r' := .tup [.agg (TDesc.c c50a), .bool c50b]) (heap' := [(0, .box [.int .u32 0, .int .u32 0, .int .i64 0, .bool false, .int .u32 0, .nils, .nils, .int .i64 0, .int .i64 0, .bool false, .bool false, .bool false, .int .u32 0, .nils]), (1, .box [.int .u32 0, .int .u32 0, .int .i64 0, .bool false, .int .u32 0, .nils, .nils, .int .i64 0, .int .i64 0, .bool false, .bool false, .bool false, .int .u32 0, .nils]), (2, .box [.int .u32 x8.s.Own, .int .u32 x8.s.Peer, .int .i64 x8.s.Phase, .bool x8.s.Leads, .int .u32 x8.s.Seq, .ro 8 (x8.s.Left.map THeader.c), .ro 8 (x8.s.Got.map THeader.c), .int .i64 x8.s.Last.MTU, .int .i64 x8.s.Last.Options, .bool x8.s.Last.Init, .bool x8.s.Last.More, .bool x8.s.Last.Master, .int .u32 x8.s.Last.Seq, .ro 8 (x8.s.Last.Heads.map THeader.c), .own 3 7 0 x8.waits.length]), (3, .row 7 29 (x8.waits.map TDesc.c)), (4, .box [.int .u32 c50c.s.Own, .int .u32 c50c.s.Peer, .int .i64 c50c.s.Phase, .bool c50c.s.Leads, .int .u32 c50c.s.Seq, .ro 8 (c50c.s.Left.map THeader.c), .ro 8 (c50c.s.Got.map THeader.c), .int .i64 c50c.s.Last.MTU, .int .i64 c50c.s.Last.Options, .bool c50c.s.Last.Init, .bool c50c.s.Last.More, .bool c50c.s.Last.Master, .int .u32 c50c.s.Last.Seq, .ro 8 (c50c.s.Last.Heads.map THeader.c), .own 6 7 0 c50c.waits.length]), (6, .row 7 29 (c50c.waits.map TDesc.c))]) (next' := 7) [4, 5] [] rfl rfl rfl rfl rfl rfl (f33_ok y9 false _ hc50) (.inl rfl) rfl rfl rfl ?_
      refine GX.done ?_
      refine WK.nil (QF.normal (hK19 _ ?_))
      refine WK.nil (QF.normal (hK17 _ ?_))
      refine WK.regx mixed ?_
      refine GX.pure (v' := .int .i64 ((i28 + 1 : Nat) : Int)) rfl rfl rfl rfl (congrArg (PVal.int .i64) (wrap_up hlt15 hlen_15)) ?_
      refine GX.m rfl ?_
      refine GX.done ?_
      refine WK.nil (QF.normal ?_)
      exact hagain_15 _ (fates2.length - (i28 + 1)) ⟨[(6, .ptr 0 0), (7, .ptr 1 0), (8, .ptr 2 0), (9, .ptr 4 0), (26, .ro 1 (fates2.map c_i64)), (27, .int .i64 (fates2.length : Int)), (28, .int .i64 ((i28 + 1) : Int))], [(0, .box [.int .u32 0, .int .u32 0, .int .i64 0, .bool false, .int .u32 0, .nils, .nils, .int .i64 0, .int .i64 0, .bool false, .bool false, .bool false, .int .u32 0, .nils]), (1, .box [.int .u32 0, .int .u32 0, .int .i64 0, .bool false, .int .u32 0, .nils, .nils, .int .i64 0, .int .i64 0, .bool false, .bool false, .bool false, .int .u32 0, .nils]), (2, .box [.int .u32 x8.s.Own, .int .u32 x8.s.Peer, .int .i64 x8.s.Phase, .bool x8.s.Leads, .int .u32 x8.s.Seq, .ro 8 (x8.s.Left.map THeader.c), .ro 8 (x8.s.Got.map THeader.c), .int .i64 x8.s.Last.MTU, .int .i64 x8.s.Last.Options, .bool x8.s.Last.Init, .bool x8.s.Last.More, .bool x8.s.Last.Master, .int .u32 x8.s.Last.Seq, .ro 8 (x8.s.Last.Heads.map THeader.c), .own 3 7 0 x8.waits.length]), (3, .row 7 29 (x8.waits.map TDesc.c)), (4, .box [.int .u32 c50c.s.Own, .int .u32 c50c.s.Peer, .int .i64 c50c.s.Phase, .bool c50c.s.Leads, .int .u32 c50c.s.Seq, .ro 8 (c50c.s.Left.map THeader.c), .ro 8 (c50c.s.Got.map THeader.c), .int .i64 c50c.s.Last.MTU, .int .i64 c50c.s.Last.Options, .bool c50c.s.Last.Init, .bool c50c.s.Last.More, .bool c50c.s.Last.Master, .int .u32 c50c.s.Last.Seq, .ro 8 (c50c.s.Last.Heads.map THeader.c), .own 5 7 0 c50c.waits.length]), (5, .row 7 29 (c50c.waits.map TDesc.c))], 6⟩ (by omega) (Conv.keep [0, 1, 2, 3, 4, 6] [] [6, 7, 8, 9, 26, 27, 28] rfl rfl (viewE_cons rfl rfl (viewE_cons rfl rfl (viewE_cons rfl rfl (viewE_cons rfl rfl (viewE_cons rfl rfl (viewE_cons rfl rfl (viewE_cons rfl rfl viewE_nil))))))) rfl rfl) ⟨i28 + 1, x8, c50c, (by omega), rfl, hL_15, rfl⟩
    ·rw [hb21]; try simp only [hb21, bb] at hL_15
     refine WK.condT rfl ?_
     refine WK.regx mixed ?_
     iterate 2 refine GX.m rfl ?_
     generalize hc45 : F32_exch_end_hear y9 x8 false = c45 at hL_15
     rcases c45 with _ | c45
     ·try dsimp only at hL_15
      subst hL_15
      try dsimp only at hR
      cases hR
     try dsimp only at hL_15
     obtain ⟨c45a, c45b⟩ := c45; try dsimp only at hL_15
     refine GX.callx (r' := .tup []) (heap' := [(0, .box [.int .u32 0, .int .u32 0, .int .i64 0, .bool false, .int .u32 0, .nils, .nils, .int .i64 0, .int .i64 0, .bool false, .bool false, .bool false, .int .u32 0, .nils]), (1, .box [.int .u32 0, .int .u32 0, .int .i64 0, .bool false, .int .u32 0, .nils, .nils, .int .i64 0, .int .i64 0, .bool false, .bool false, .bool false, .int .u32 0, .nils]), (2, .box [.int .u32 c45b.s.Own, .int .u32 c45b.s.Peer, .int .i64 c45b.s.Phase, .bool c45b.s.Leads, .int .u32 c45b.s.Seq, .ro 8 (c45b.s.Left.map THeader.c), .ro 8 (c45b.s.Got.map THeader.c), .int .i64 c45b.s.Last.MTU, .int .i64 c45b.s.Last.Options, .bool c45b.s.Last.Init, .bool c45b.s.Last.More, .bool c45b.s.Last.Master, .int .u32 c45b.s.Last.Seq, .ro 8 (c45b.s.Last.Heads.map THeader.c), .own 7 7 0 c45b.waits.length]), (4, .box [.int .u32 c45a.s.Own, .int .u32 c45a.s.Peer, .int .i64 c45a.s.Phase, .bool c45a.s.Leads, .int .u32 c45a.s.Seq, .ro 8 (c45a.s.Left.map THeader.c), .ro 8 (c45a.s.Got.map THeader.c), .int .i64 c45a.s.Last.MTU, .int .i64 c45a.s.Last.Options, .bool c45a.s.Last.Init, .bool c45a.s.Last.More, .bool c45a.s.Last.Master, .int .u32 c45a.s.Last.Seq, .ro 8 (c45a.s.Last.Heads.map THeader.c), .own 6 7 0 c45a.waits.length]), (7, .row 7 29 (c45b.waits.map TDesc.c)), (6, .row 7 29 (c45a.waits.map TDesc.c))]) (next' := 8) [4, 2, 5, 3] [] rfl rfl rfl rfl rfl rfl (f32_ok y9 x8 false _ hc45) (.inl rfl) rfl rfl rfl ?_
     refine GX.done ?_
     refine WK.nil (QF.normal (hK19 _ ?_))
     refine WK.nil (QF.normal (hK17 _ ?_))
     refine WK.regx mixed ?_
     refine GX.pure (v' := .int .i64 ((i28 + 1 : Nat) : Int)) rfl rfl rfl rfl (congrArg (PVal.int .i64) (wrap_up hlt15 hlen_15)) ?_
     refine GX.m rfl ?_
     refine GX.done ?_
     refine WK.nil (QF.normal ?_)
     exact hagain_15 _ (fates2.length - (i28 + 1)) ⟨[(6, .ptr 0 0), (7, .ptr 1 0), (8, .ptr 2 0), (9, .ptr 4 0), (26, .ro 1 (fates2.map c_i64)), (27, .int .i64 (fates2.length : Int)), (28, .int .i64 ((i28 + 1) : Int))], [(0, .box [.int .u32 0, .int .u32 0, .int .i64 0, .bool false, .int .u32 0, .nils, .nils, .int .i64 0, .int .i64 0, .bool false, .bool false, .bool false, .int .u32 0, .nils]), (1, .box [.int .u32 0, .int .u32 0, .int .i64 0, .bool false, .int .u32 0, .nils, .nils, .int .i64 0, .int .i64 0, .bool false, .bool false, .bool false, .int .u32 0, .nils]), (2, .box [.int .u32 c45b.s.Own, .int .u32 c45b.s.Peer, .int .i64 c45b.s.Phase, .bool c45b.s.Leads, .int .u32 c45b.s.Seq, .ro 8 (c45b.s.Left.map THeader.c), .ro 8 (c45b.s.Got.map THeader.c), .int .i64 c45b.s.Last.MTU, .int .i64 c45b.s.Last.Options, .bool c45b.s.Last.Init, .bool c45b.s.Last.More, .bool c45b.s.Last.Master, .int .u32 c45b.s.Last.Seq, .ro 8 (c45b.s.Last.Heads.map THeader.c), .own 3 7 0 c45b.waits.length]), (3, .row 7 29 (c45b.waits.map TDesc.c)), (4, .box [.int .u32 c45a.s.Own, .int .u32 c45a.s.Peer, .int .i64 c45a.s.Phase, .bool c45a.s.Leads, .int .u32 c45a.s.Seq, .ro 8 (c45a.s.Left.map THeader.c), .ro 8 (c45a.s.Got.map THeader.c), .int .i64 c45a.s.Last.MTU, .int .i64 c45a.s.Last.Options, .bool c45a.s.Last.Init, .bool c45a.s.Last.More, .bool c45a.s.Last.Master, .int .u32 c45a.s.Last.Seq, .ro 8 (c45a.s.Last.Heads.map THeader.c), .own 5 7 0 c45a.waits.length]), (5, .row 7 29 (c45a.waits.map TDesc.c))], 6⟩ (by omega) (Conv.keep [0, 1, 2, 7, 4, 6] [] [6, 7, 8, 9, 26, 27, 28] rfl rfl (viewE_cons rfl rfl (viewE_cons rfl rfl (viewE_cons rfl rfl (viewE_cons rfl rfl (viewE_cons rfl rfl (viewE_cons rfl rfl (viewE_cons rfl rfl viewE_nil))))))) rfl rfl) ⟨i28 + 1, c45b, c45a, (by omega), rfl, hL_15, rfl⟩
   ·rw [hb20]; try simp only [hb20, bb] at hL_15
    refine WK.condT rfl ?_
    refine WK.skip ?_
    refine WK.condT rfl ?_
    refine WK.regx mixed ?_
    iterate 2 refine GX.m rfl ?_
    generalize hc45 : F32_exch_end_hear y9 x8 false = c45 at hL_15
    rcases c45 with _ | c45
    ·try dsimp only at hL_15
     subst hL_15
     try dsimp only at hR
     cases hR
    try dsimp only at hL_15
    obtain ⟨c45a, c45b⟩ := c45; try dsimp only at hL_15
    refine GX.callx (r' := .tup []) (heap' := [(0, .box [.int .u32 0, .int .u32 0, .int .i64 0, .bool false, .int .u32 0, .nils, .nils, .int .i64 0, .int .i64 0, .bool false, .bool false, .bool false, .int .u32 0, .nils]), (1, .box [.int .u32 0, .int .u32 0, .int .i64 0, .bool false, .int .u32 0, .nils, .nils, .int .i64 0, .int .i64 0, .bool false, .bool false, .bool false, .int .u32 0, .nils]), (2, .box [.int .u32 c45b.s.Own, .int .u32 c45b.s.Peer, .int .i64 c45b.s.Phase, .bool c45b.s.Leads, .int .u32 c45b.s.Seq, .ro 8 (c45b.s.Left.map THeader.c), .ro 8 (c45b.s.Got.map THeader.c), .int .i64 c45b.s.Last.MTU, .int .i64 c45b.s.Last.Options, .bool c45b.s.Last.Init, .bool c45b.s.Last.More, .bool c45b.s.Last.Master, .int .u32 c45b.s.Last.Seq, .ro 8 (c45b.s.Last.Heads.map THeader.c), .own 7 7 0 c45b.waits.length]), (4, .box [.int .u32 c45a.s.Own, .int .u32 c45a.s.Peer, .int .i64 c45a.s.Phase, .bool c45a.s.Leads, .int .u32 c45a.s.Seq, .ro 8 (c45a.s.Left.map THeader.c), .ro 8 (c45a.s.Got.map THeader.c), .int .i64 c45a.s.Last.MTU, .int .i64 c45a.s.Last.Options, .bool c45a.s.Last.Init, .bool c45a.s.Last.More, .bool c45a.s.Last.Master, .int .u32 c45a.s.Last.Seq, .ro 8 (c45a.s.Last.Heads.map THeader.c), .own 6 7 0 c45a.waits.length]), (7, .row 7 29 (c45b.waits.map TDesc.c)), (6, .row 7 29 (c45a.waits.map TDesc.c))]) (next' := 8) [4, 2, 5, 3] [] rfl rfl rfl rfl rfl rfl (f32_ok y9 x8 false _ hc45) (.inl rfl) rfl rfl rfl ?_
    refine GX.done ?_
    refine WK.nil (QF.normal (hK19 _ ?_))
    refine WK.nil (QF.normal (hK17 _ ?_))
    refine WK.regx mixed ?_
    refine GX.pure (v' := .int .i64 ((i28 + 1 : Nat) : Int)) rfl rfl rfl rfl (congrArg (PVal.int .i64) (wrap_up hlt15 hlen_15)) ?_
    refine GX.m rfl ?_
    refine GX.done ?_
    refine WK.nil (QF.normal ?_)
    exact hagain_15 _ (fates2.length - (i28 + 1)) ⟨[(6, .ptr 0 0), (7, .ptr 1 0), (8, .ptr 2 0), (9, .ptr 4 0), (26, .ro 1 (fates2.map c_i64)), (27, .int .i64 (fates2.length : Int)), (28, .int .i64 ((i28 + 1) : Int))], [(0, .box [.int .u32 0, .int .u32 0, .int .i64 0, .bool false, .int .u32 0, .nils, .nils, .int .i64 0, .int .i64 0, .bool false, .bool false, .bool false, .int .u32 0, .nils]), (1, .box [.int .u32 0, .int .u32 0, .int .i64 0, .bool false, .int .u32 0, .nils, .nils, .int .i64 0, .int .i64 0, .bool false, .bool false, .bool false, .int .u32 0, .nils]), (2, .box [.int .u32 c45b.s.Own, .int .u32 c45b.s.Peer, .int .i64 c45b.s.Phase, .bool c45b.s.Leads, .int .u32 c45b.s.Seq, .ro 8 (c45b.s.Left.map THeader.c), .ro 8 (c45b.s.Got.map THeader.c), .int .i64 c45b.s.Last.MTU, .int .i64 c45b.s.Last.Options, .bool c45b.s.Last.Init, .bool c45b.s.Last.More, .bool c45b.s.Last.Master, .int .u32 c45b.s.Last.Seq, .ro 8 (c45b.s.Last.Heads.map THeader.c), .own 3 7 0 c45b.waits.length]), (3, .row 7 29 (c45b.waits.map TDesc.c)), (4, .box [.int .u32 c45a.s.Own, .int .u32 c45a.s.Peer, .int .i64 c45a.s.Phase, .bool c45a.s.Leads, .int .u32 c45a.s.Seq, .ro 8 (c45a.s.Left.map THeader.c), .ro 8 (c45a.s.Got.map THeader.c), .int .i64 c45a.s.Last.MTU, .int .i64 c45a.s.Last.Options, .bool c45a.s.Last.Init, .bool c45a.s.Last.More, .bool c45a.s.Last.Master, .int .u32 c45a.s.Last.Seq, .ro 8 (c45a.s.Last.Heads.map THeader.c), .own 5 7 0 c45a.waits.length]), (5, .row 7 29 (c45a.waits.map TDesc.c))], 6⟩ (by omega) (Conv.keep [0, 1, 2, 7, 4, 6] [] [6, 7, 8, 9, 26, 27, 28] rfl rfl (viewE_cons rfl rfl (viewE_cons rfl rfl (viewE_cons rfl rfl (viewE_cons rfl rfl (viewE_cons rfl rfl (viewE_cons rfl rfl (viewE_cons rfl rfl viewE_nil))))))) rfl rfl) ⟨i28 + 1, c45b, c45a, (by omega), rfl, hL_15, rfl⟩
  ·rw [hb18]; try simp only [hb18, bb] at hL_15
   refine WK.condF rfl ?_
   refine WK.skip ?_
   refine WK.sr mixed ?_
   refine GX.m rfl ?_
   refine GX.done ?_
   refine WK.blockK (fun _ hK36 => ?_)
   refine WK.seq ?_
   refine WK.sr mixed ?_
   refine GX.q (.bool (decide (x28 = 0))) ?_
   refine GX.m rfl ?_
   refine GX.done ?_
   rcases bool_two (decide (x28 = 0)) with hb37 | hb37
   ·rw [hb37]; try simp only [hb37, bb] at hL_15
    refine WK.condF rfl ?_
    refine WK.regx mixed ?_
    refine GX.q (.bool (decide (x28 = 1))) ?_
    refine GX.m rfl ?_
    refine GX.done ?_
    rcases bool_two (decide (x28 = 1)) with hb38 | hb38
    ·rw [hb38]; try simp only [hb38, bb] at hL_15
     refine WK.condF rfl ?_
     refine WK.seq ?_
     refine WK.sr mixed ?_
     refine GX.q (.bool (decide (x28 = 2))) ?_
     refine GX.m rfl ?_
     refine GX.done ?_
     rcases bool_two (decide (x28 = 2)) with hb39 | hb39
     ·rw [hb39]; try simp only [hb39, bb] at hL_15
      refine WK.condF rfl ?_
      refine WK.regx mixed ?_
      refine GX.q (.bool (decide (x28 = 3))) ?_
      refine GX.m rfl ?_
      refine GX.done ?_
      rcases bool_two (decide (x28 = 3)) with hb40 | hb40
      ·rw [hb40]; try simp only [hb40, bb] at hL_15
       refine WK.condF rfl ?_
       refine WK.seq ?_
       refine WK.sr mixed ?_
       refine GX.q (.bool (decide (x28 = 4))) ?_
       refine GX.m rfl ?_
       refine GX.done ?_
       rcases bool_two (decide (x28 = 4)) with hb41 | hb41
       ·rw [hb41]; try simp only [hb41, bb] at hL_15
        refine WK.condF rfl ?_
        refine WK.regx mixed ?_
        refine GX.q (.bool (decide (x28 = 5))) ?_
        refine GX.m rfl ?_
        refine GX.done ?_
        rcases bool_two (decide (x28 = 5)) with hb42 | hb42
        ·rw [hb42]; try simp only [hb42, bb] at hL_15
         refine WK.condF rfl ?_
         refine WK.seq ?_
         refine WK.sr mixed ?_
         refine GX.q (.bool (decide (x28 = 6))) ?_
         refine GX.m rfl ?_
         refine GX.done ?_
         rcases bool_two (decide (x28 = 6)) with hb43 | hb43
         ·rw [hb43]; try simp only [hb43, bb] at hL_15
          refine WK.condF rfl ?_
          refine WK.regx mixed ?_
          refine GX.q (.bool (decide (x28 = 7))) ?_
          refine GX.m rfl ?_
          refine GX.done ?_
          rcases bool_two (decide (x28 = 7)) with hb44 | hb44
          ·rw [hb44]; try simp only [hb44, bb] at hL_15
           refine WK.condF rfl ?_
           refine WK.skip ?_
           refine WK.nil (QF.normal (hK36 _ ?_))
           refine WK.nil (QF.normal (hK17 _ ?_))
           refine WK.regx mixed ?_
           refine GX.pure (v' := .int .i64 ((i28 + 1 : Nat) : Int)) rfl rfl rfl rfl (congrArg (PVal.int .i64) (wrap_up hlt15 hlen_15)) ?_
           refine GX.m rfl ?_
           refine GX.done ?_
           refine WK.nil (QF.normal ?_)
           exact hagain_15 _ (fates2.length - (i28 + 1)) ⟨[(6, .ptr 0 0), (7, .ptr 1 0), (8, .ptr 2 0), (9, .ptr 4 0), (26, .ro 1 (fates2.map c_i64)), (27, .int .i64 (fates2.length : Int)), (28, .int .i64 ((i28 + 1) : Int))], [(0, .box [.int .u32 0, .int .u32 0, .int .i64 0, .bool false, .int .u32 0, .nils, .nils, .int .i64 0, .int .i64 0, .bool false, .bool false, .bool false, .int .u32 0, .nils]), (1, .box [.int .u32 0, .int .u32 0, .int .i64 0, .bool false, .int .u32 0, .nils, .nils, .int .i64 0, .int .i64 0, .bool false, .bool false, .bool false, .int .u32 0, .nils]), (2, .box [.int .u32 x8.s.Own, .int .u32 x8.s.Peer, .int .i64 x8.s.Phase, .bool x8.s.Leads, .int .u32 x8.s.Seq, .ro 8 (x8.s.Left.map THeader.c), .ro 8 (x8.s.Got.map THeader.c), .int .i64 x8.s.Last.MTU, .int .i64 x8.s.Last.Options, .bool x8.s.Last.Init, .bool x8.s.Last.More, .bool x8.s.Last.Master, .int .u32 x8.s.Last.Seq, .ro 8 (x8.s.Last.Heads.map THeader.c), .own 3 7 0 x8.waits.length]), (3, .row 7 29 (x8.waits.map TDesc.c)), (4, .box [.int .u32 y9.s.Own, .int .u32 y9.s.Peer, .int .i64 y9.s.Phase, .bool y9.s.Leads, .int .u32 y9.s.Seq, .ro 8 (y9.s.Left.map THeader.c), .ro 8 (y9.s.Got.map THeader.c), .int .i64 y9.s.Last.MTU, .int .i64 y9.s.Last.Options, .bool y9.s.Last.Init, .bool y9.s.Last.More, .bool y9.s.Last.Master, .int .u32 y9.s.Last.Seq, .ro 8 (y9.s.Last.Heads.map THeader.c), .own 5 7 0 y9.waits.length]), (5, .row 7 29 (y9.waits.map TDesc.c))], 6⟩ (by omega) (Conv.keep [0, 1, 2, 3, 4, 5] [] [6, 7, 8, 9, 26, 27, 28] rfl rfl (viewE_cons rfl rfl (viewE_cons rfl rfl (viewE_cons rfl rfl (viewE_cons rfl rfl (viewE_cons rfl rfl (viewE_cons rfl rfl (viewE_cons rfl rfl viewE_nil))))))) rfl rfl) ⟨i28 + 1, x8, y9, (by omega), rfl, hL_15, rfl⟩
          ·rw [hb44]; try simp only [hb44, bb] at hL_15
           refine WK.condT rfl ?_
           refine WK.regx mixed ?_
           iterate 2 refine GX.m rfl ?_
           generalize hc62 : F32_exch_end_hear x8 y9 true = c62 at hL_15
           rcases c62 with _ | c62
           ·try dsimp only at hL_15
            subst hL_15
            try dsimp only at hR
            cases hR
           try dsimp only at hL_15
           obtain ⟨c62a, c62b⟩ := c62; try dsimp only at hL_15
           refine GX.callx (r' := .tup []) (heap' := [(0, .box [.int .u32 0, .int .u32 0, .int .i64 0, .bool false, .int .u32 0, .nils, .nils, .int .i64 0, .int .i64 0, .bool false, .bool false, .bool false, .int .u32 0, .nils]), (1, .box [.int .u32 0, .int .u32 0, .int .i64 0, .bool false, .int .u32 0, .nils, .nils, .int .i64 0, .int .i64 0, .bool false, .bool false, .bool false, .int .u32 0, .nils]), (2, .box [.int .u32 c62a.s.Own, .int .u32 c62a.s.Peer, .int .i64 c62a.s.Phase, .bool c62a.s.Leads, .int .u32 c62a.s.Seq, .ro 8 (c62a.s.Left.map THeader.c), .ro 8 (c62a.s.Got.map THeader.c), .int .i64 c62a.s.Last.MTU, .int .i64 c62a.s.Last.Options, .bool c62a.s.Last.Init, .bool c62a.s.Last.More, .bool c62a.s.Last.Master, .int .u32 c62a.s.Last.Seq, .ro 8 (c62a.s.Last.Heads.map THeader.c), .own 6 7 0 c62a.waits.length]), (4, .box [.int .u32 c62b.s.Own, .int .u32 c62b.s.Peer, .int .i64 c62b.s.Phase, .bool c62b.s.Leads, .int .u32 c62b.s.Seq, .ro 8 (c62b.s.Left.map THeader.c), .ro 8 (c62b.s.Got.map THeader.c), .int .i64 c62b.s.Last.MTU, .int .i64 c62b.s.Last.Options, .bool c62b.s.Last.Init, .bool c62b.s.Last.More, .bool c62b.s.Last.Master, .int .u32 c62b.s.Last.Seq, .ro 8 (c62b.s.Last.Heads.map THeader.c), .own 7 7 0 c62b.waits.length]), (7, .row 7 29 (c62b.waits.map TDesc.c)), (6, .row 7 29 (c62a.waits.map TDesc.c))]) (next' := 8) [2, 4, 3, 5] [] rfl rfl rfl rfl rfl rfl (f32_ok x8 y9 true _ hc62) (.inl rfl) rfl rfl rfl ?_
           refine GX.done ?_
           refine WK.nil (QF.normal (hK36 _ ?_))
           refine WK.nil (QF.normal (hK17 _ ?_))
           refine WK.regx mixed ?_
           refine GX.pure (v' := .int .i64 ((i28 + 1 : Nat) : Int)) rfl rfl rfl rfl (congrArg (PVal.int .i64) (wrap_up hlt15 hlen_15)) ?_
           refine GX.m rfl ?_
           refine GX.done ?_
           refine WK.nil (QF.normal ?_)
           exact hagain_15 _ (fates2.length - (i28 + 1)) ⟨[(6, .ptr 0 0), (7, .ptr 1 0), (8, .ptr 2 0), (9, .ptr 4 0), (26, .ro 1 (fates2.map c_i64)), (27, .int .i64 (fates2.length : Int)), (28, .int .i64 ((i28 + 1) : Int))], [(0, .box [.int .u32 0, .int .u32 0, .int .i64 0, .bool false, .int .u32 0, .nils, .nils, .int .i64 0, .int .i64 0, .bool false, .bool false, .bool false, .int .u32 0, .nils]), (1, .box [.int .u32 0, .int .u32 0, .int .i64 0, .bool false, .int .u32 0, .nils, .nils, .int .i64 0, .int .i64 0, .bool false, .bool false, .bool false, .int .u32 0, .nils]), (2, .box [.int .u32 c62a.s.Own, .int .u32 c62a.s.Peer, .int .i64 c62a.s.Phase, .bool c62a.s.Leads, .int .u32 c62a.s.Seq, .ro 8 (c62a.s.Left.map THeader.c), .ro 8 (c62a.s.Got.map THeader.c), .int .i64 c62a.s.Last.MTU, .int .i64 c62a.s.Last.Options, .bool c62a.s.Last.Init, .bool c62a.s.Last.More, .bool c62a.s.Last.Master, .int .u32 c62a.s.Last.Seq, .ro 8 (c62a.s.Last.Heads.map THeader.c), .own 3 7 0 c62a.waits.length]), (3, .row 7 29 (c62a.waits.map TDesc.c)), (4, .box [.int .u32 c62b.s.Own, .int .u32 c62b.s.Peer, .int .i64 c62b.s.Phase, .bool c62b.s.Leads, .int .u32 c62b.s.Seq, .ro 8 (c62b.s.Left.map THeader.c), .ro 8 (c62b.s.Got.map THeader.c), .int .i64 c62b.s.Last.MTU, .int .i64 c62b.s.Last.Options, .bool c62b.s.Last.Init, .bool c62b.s.Last.More, .bool c62b.s.Last.Master, .int .u32 c62b.s.Last.Seq, .ro 8 (c62b.s.Last.Heads.map THeader.c), .own 5 7 0 c62b.waits.length]), (5, .row 7 29 (c62b.waits.map TDesc.c))], 6⟩ (by omega) (Conv.keep [0, 1, 2, 6, 4, 7] [] [6, 7, 8, 9, 26, 27, 28] rfl rfl (viewE_cons rfl rfl (viewE_cons rfl rfl (viewE_cons rfl rfl (viewE_cons rfl rfl (viewE_cons rfl rfl (viewE_cons rfl rfl (viewE_cons rfl rfl viewE_nil))))))) rfl rfl) ⟨i28 + 1, c62a, c62b, (by omega), rfl, hL_15, rfl⟩
         ·rw [hb43]; try simp only [hb43, bb] at hL_15
          refine WK.condT rfl ?_
          refine WK.skip ?_
          refine WK.condT rfl ?_
          refine WK.regx mixed ?_
          iterate 2 refine GX.m rfl ?_
          generalize hc62 : F32_exch_end_hear x8 y9 true = c62 at hL_15
          rcases c62 with _ | c62
          ·try dsimp only at hL_15
           subst hL_15
           try dsimp only at hR
           cases hR
          try dsimp only at hL_15
          obtain ⟨c62a, c62b⟩ := c62; try dsimp only at hL_15
          refine GX.callx (r' := .tup []) (heap' := [(0, .box [.int .u32 0, .int .u32 0, .int .i64 0, .bool false, .int .u32 0, .nils, .nils, .int .i64 0, .int .i64 0, .bool false, .bool false, .bool false, .int .u32 0, .nils]), (1, .box [.int .u32 0, .int .u32 0, .int .i64 0, .bool false, .int .u32 0, .nils, .nils, .int .i64 0, .int .i64 0, .bool false, .bool false, .bool false, .int .u32 0, .nils]), (2, .box [.int .u32 c62a.s.Own, .int .u32 c62a.s.Peer, .int .i64 c62a.s.Phase, .bool c62a.s.Leads, .int .u32 c62a.s.Seq, .ro 8 (c62a.s.Left.map THeader.c), .ro 8 (c62a.s.Got.map THeader.c), .int .i64 c62a.s.Last.MTU, .int .i64 c62a.s.Last.Options, .bool c62a.s.Last.Init, .bool c62a.s.Last.More, .bool c62a.s.Last.Master, .int .u32 c62a.s.Last.Seq, .ro 8 (c62a.s.Last.Heads.map THeader.c), .own 6 7 0 c62a.waits.length]), (4, .box [.int .u32 c62b.s.Own, .int .u32 c62b.s.Peer, .int .i64 c62b.s.Phase, .bool c62b.s.Leads, .int .u32 c62b.s.Seq, .ro 8 (c62b.s.Left.map THeader.c), .ro 8 (c62b.s.Got.map THeader.c), .int .i64 c62b.s.Last.MTU, .int .i64 c62b.s.Last.Options, .bool c62b.s.Last.Init, .bool c62b.s.Last.More, .bool c62b.s.Last.Master, .int .u32 c62b.s.Last.Seq, .ro 8 (c62b.s.Last.Heads.map THeader.c), .own 7 7 0 c62b.waits.length]), (7, .row 7 29 (c62b.waits.map TDesc.c)), (6, .row 7 29 (c62a.waits.map TDesc.c))]) (next' := 8) [2, 4, 3, 5] [] rfl rfl rfl rfl rfl rfl (f32_ok x8 y9 true _ hc62) (.inl rfl) rfl rfl rfl ?_
          refine GX.done ?_
          refine WK.nil (QF.normal (hK36 _ ?_))
          refine WK.nil (QF.normal (hK17 _ ?_))
          refine WK.regx mixed ?_
          refine GX.pure (v' := .int .i64 ((i28 + 1 : Nat) : Int)) rfl rfl rfl rfl (congrArg (PVal.int .i64) (wrap_up hlt15 hlen_15)) ?_
          refine GX.m rfl ?_
          refine GX.done ?_
          refine WK.nil (QF.normal ?_)
          exact hagain_15 _ (fates2.length - (i28 + 1)) ⟨[(6, .ptr 0 0), (7, .ptr 1 0), (8, .ptr 2 0), (9, .ptr 4 0), (26, .ro 1 (fates2.map c_i64)), (27, .int .i64 (fates2.length : Int)), (28, .int .i64 ((i28 + 1) : Int))], [(0, .box [.int .u32 0, .int .u32 0, .int .i64 0, .bool false, .int .u32 0, .nils, .nils, .int .i64 0, .int .i64 0, .bool false, .bool false, .bool false, .int .u32 0, .nils]), (1, .box [.int .u32 0, .int .u32 0, .int .i64 0, .bool false, .int .u32 0, .nils, .nils, .int .i64 0, .int .i64 0, .bool false, .bool false, .bool false, .int .u32 0, .nils]), (2, .box [.int .u32 c62a.s.Own, .int .u32 c62a.s.Peer, .int .i64 c62a.s.Phase, .bool c62a.s.Leads, .int .u32 c62a.s.Seq, .ro 8 (c62a.s.Left.map THeader.c), .ro 8 (c62a.s.Got.map THeader.c), .int .i64 c62a.s.Last.MTU, .int .i64 c62a.s.Last.Options, .bool c62a.s.Last.Init, .bool c62a.s.Last.More, .bool c62a.s.Last.Master, .int .u32 c62a.s.Last.Seq, .ro 8 (c62a.s.Last.Heads.map THeader.c), .own 3 7 0 c62a.waits.length]), (3, .row 7 29 (c62a.waits.map TDesc.c)), (4, .box [.int .u32 c62b.s.Own, .int .u32 c62b.s.Peer, .int .i64 c62b.s.Phase, .bool c62b.s.Leads, .int .u32 c62b.s.Seq, .ro 8 (c62b.s.Left.map THeader.c), .ro 8 (c62b.s.Got.map THeader.c), .int .i64 c62b.s.Last.MTU, .int .i64 c62b.s.Last.Options, .bool c62b.s.Last.Init, .bool c62b.s.Last.More, .bool c62b.s.Last.Master, .int .u32 c62b.s.Last.Seq, .ro 8 (c62b.s.Last.Heads.map THeader.c), .own 5 7 0 c62b.waits.length]), (5, .row 7 29 (c62b.waits.map TDesc.c))], 6⟩ (by omega) (Conv.keep [0, 1, 2, 6, 4, 7] [] [6, 7, 8, 9, 26, 27, 28] rfl rfl (viewE_cons rfl rfl (viewE_cons rfl rfl (viewE_cons rfl rfl (viewE_cons rfl rfl (viewE_cons rfl rfl (viewE_cons rfl rfl (viewE_cons rfl rfl viewE_nil))))))) rfl rfl) ⟨i28 + 1, c62a, c62b, (by omega), rfl, hL_15, rfl⟩
        ·rw [hb42]; try simp only [hb42, bb] at hL_15
         refine WK.condT rfl ?_
         refine WK.regx mixed ?_
         iterate 2 refine GX.m rfl ?_
         generalize hc56 : F34_exch_end_remind x8 y9 = c56 at hL_15
         rcases c56 with _ | c56
         ·try dsimp only at hL_15
          subst hL_15
          try dsimp only at hR
          cases hR
         try dsimp only at hL_15
         obtain ⟨c56a, c56b⟩ := c56; try dsimp only at hL_15
         refine GX.callx (r' := .tup []) (heap' := [(0, .box [.int .u32 0, .int .u32 0, .int .i64 0, .bool false, .int .u32 0, .nils, .nils, .int .i64 0, .int .i64 0, .bool false, .bool false, .bool false, .int .u32 0, .nils]), (1, .box [.int .u32 0, .int .u32 0, .int .i64 0, .bool false, .int .u32 0, .nils, .nils, .int .i64 0, .int .i64 0, .bool false, .bool false, .bool false, .int .u32 0, .nils]), (2, .box [.int .u32 c56a.s.Own, .int .u32 c56a.s.Peer, .int .i64 c56a.s.Phase, .bool c56a.s.Leads, .int .u32 c56a.s.Seq, .ro 8 (c56a.s.Left.map THeader.c), .ro 8 (c56a.s.Got.map THeader.c), .int .i64 c56a.s.Last.MTU, .int .i64 c56a.s.Last.Options, .bool c56a.s.Last.Init, .bool c56a.s.Last.More, .bool c56a.s.Last.Master, .int .u32 c56a.s.Last.Seq, .ro 8 (c56a.s.Last.Heads.map THeader.c), .own 6 7 0 c56a.waits.length]), (4, .box [.int .u32 c56b.s.Own, .int .u32 c56b.s.Peer, .int .i64 c56b.s.Phase, .bool c56b.s.Leads, .int .u32 c56b.s.Seq, .ro 8 (c56b.s.Left.map THeader.c), .ro 8 (c56b.s.Got.map THeader.c), .int .i64 c56b.s.Last.MTU, .int .i64 c56b.s.Last.Options, .bool c56b.s.Last.Init, .bool c56b.s.Last.More, .bool c56b.s.Last.Master, .int .u32 c56b.s.Last.Seq, .ro 8 (c56b.s.Last.Heads.map THeader.c), .own 7 7 0 c56b.waits.length]), (7, .row 7 29 (c56b.waits.map TDesc.c)), (6, .row 7 29 (c56a.waits.map TDesc.c))]) (next' := 8) [2, 4, 3, 5] [] rfl rfl rfl rfl rfl rfl (f34_ok x8 y9 _ hc56) (.inl rfl) rfl rfl rfl ?_
         refine GX.done ?_
         refine WK.nil (QF.normal (hK36 _ ?_))
         refine WK.nil (QF.normal (hK17 _ ?_))
         refine WK.regx mixed ?_
         refine GX.pure (v' := .int .i64 ((i28 + 1 : Nat) : Int)) rfl rfl rfl rfl (congrArg (PVal.int .i64) (wrap_up hlt15 hlen_15)) ?_
         refine GX.m rfl ?_
         refine GX.done ?_
         refine WK.nil (QF.normal ?_)
         exact hagain_15 _ (fates2.length - (i28 + 1)) ⟨[(6, .ptr 0 0), (7, .ptr 1 0), (8, .ptr 2 0), (9, .ptr 4 0), (26, .ro 1 (fates2.map c_i64)), (27, .int .i64 (fates2.length : Int)), (28, .int .i64 ((i28 + 1) : Int))], [(0, .box [.int .u32 0, .int .u32 0, .int .i64 0, .bool false, .int .u32 0, .nils, .nils, .int .i64 0, .int .i64 0, .bool false, .bool false, .bool false, .int .u32 0, .nils]), (1, .box [.int .u32 0, .int .u32 0, .int .i64 0, .bool false, .int .u32 0, .nils, .nils, .int .i64 0, .int .i64 0, .bool false, .bool false, .bool false, .int .u32 0, .nils]), (2, .box [.int .u32 c56a.s.Own, .int .u32 c56a.s.Peer, .int .i64 c56a.s.Phase, .bool c56a.s.Leads, .int .u32 c56a.s.Seq, .ro 8 (c56a.s.Left.map THeader.c), .ro 8 (c56a.s.Got.map THeader.c), .int .i64 c56a.s.Last.MTU, .int .i64 c56a.s.Last.Options, .bool c56a.s.Last.Init, .bool c56a.s.Last.More, .bool c56a.s.Last.Master, .int .u32 c56a.s.Last.Seq, .ro 8 (c56a.s.Last.Heads.map THeader.c), .own 3 7 0 c56a.waits.length]), (3, .row 7 29 (c56a.waits.map TDesc.c)), (4, .box [.int .u32 c56b.s.Own, .int .u32 c56b.s.Peer, .int .i64 c56b.s.Phase, .bool c56b.s.Leads, .int .u32 c56b.s.Seq, .ro 8 (c56b.s.Left.map THeader.c), .ro 8 (c56b.s.Got.map THeader.c), .int .i64 c56b.s.Last.MTU, .int .i64 c56b.s.Last.Options, .bool c56b.s.Last.Init, .bool c56b.s.Last.More, .bool c56b.s.Last.Master, .int .u32 c56b.s.Last.Seq, .ro 8 (c56b.s.Last.Heads.map THeader.c), .own 5 7 0 c56b.waits.length]), (5, .row 7 29 (c56b.waits.map TDesc.c))], 6⟩ (by omega) (Conv.keep [0, 1, 2, 6, 4, 7] [] [6, 7, 8, 9, 26, 27, 28] rfl rfl (viewE_cons rfl rfl (viewE_cons rfl rfl (viewE_cons rfl rfl (viewE_cons rfl rfl (viewE_cons rfl rfl (viewE_cons rfl rfl (viewE_cons rfl rfl viewE_nil))))))) rfl rfl) ⟨i28 + 1, c56a, c56b, (by omega), rfl, hL_15, rfl⟩
       ·rw [hb41]; try simp only [hb41, bb] at hL_15
        refine WK.condT rfl ?_
        refine WK.skip ?_
        refine WK.condT rfl ?_
        refine WK.regx mixed ?_
        iterate 2 refine GX.m rfl ?_
        generalize hc56 : F34_exch_end_remind x8 y9 = c56 at hL_15
        rcases c56 with _ | c56
        ·try dsimp only at hL_15
         subst hL_15
         try dsimp only at hR
         cases hR
        try dsimp only at hL_15
        obtain ⟨c56a, c56b⟩ := c56; try dsimp only at hL_15
        refine GX.callx (r' := .tup []) (heap' := [(0, .box [.int .u32 0, .int .u32 0, .int .i64 0, .bool false, .int .u32 0, .nils, .nils, .int .i64 0, .int .i64 0, .bool false, .bool false, .bool false, .int .u32 0, .nils]), (1, .box [.int .u32 0, .int .u32 0, .int .i64 0, .bool false, .int .u32 0, .nils, .nils, .int .i64 0, .int .i64 0, .bool false, .bool false, .bool false, .int .u32 0, .nils]), (2, .box [.int .u32 c56a.s.Own, .int .u32 c56a.s.Peer, .int .i64 c56a.s.Phase, .bool c56a.s.Leads, .int .u32 c56a.s.Seq, .ro 8 (c56a.s.Left.map THeader.c), .ro 8 (c56a.s.Got.map THeader.c), .int .i64 c56a.s.Last.MTU, .int .i64 c56a.s.Last.Options, .bool c56a.s.Last.Init, .bool c56a.s.Last.More, .bool c56a.s.Last.Master, .int .u32 c56a.s.Last.Seq, .ro 8 (c56a.s.Last.Heads.map THeader.c), .own 6 7 0 c56a.waits.length]), (4, .box [.int .u32 c56b.s.Own, .int .u32 c56b.s.Peer, .int .i64 c56b.s.Phase, .bool c56b.s.Leads, .int .u32 c56b.s.Seq, .ro 8 (c56b.s.Left.map THeader.c), .ro 8 (c56b.s.Got.map THeader.c), .int .i64 c56b.s.Last.MTU, .int .i64 c56b.s.Last.Options, .bool c56b.s.Last.Init, .bool c56b.s.Last.More, .bool c56b.s.Last.Master, .int .u32 c56b.s.Last.Seq, .ro 8 (c56b.s.Last.Heads.map THeader.c), .own 7 7 0 c56b.waits.length]), (7, .row 7 29 (c56b.waits.map TDesc.c)), (6, .row 7 29 (c56a.waits.map TDesc.c))]) (next' := 8) [2, 4, 3, 5] [] rfl rfl rfl rfl rfl rfl (f34_ok x8 y9 _ hc56) (.inl rfl) rfl rfl rfl ?_
        refine GX.done ?_
        refine WK.nil (QF.normal (hK36 _ ?_))
        refine WK.nil (QF.normal (hK17 _ ?_))
        refine WK.regx mixed ?_
        refine GX.pure (v' := .int .i64 ((i28 + 1 : Nat) : Int)) rfl rfl rfl rfl (congrArg (PVal.int .i64) (wrap_up hlt15 hlen_15)) ?_
        refine GX.m rfl ?_
        refine GX.done ?_
        refine WK.nil (QF.normal ?_)
        exact hagain_15 _ (fates2.length - (i28 + 1)) ⟨[(6, .ptr 0 0), (7, .ptr 1 0), (8, .ptr 2 0), (9, .ptr 4 0), (26, .ro 1 (fates2.map c_i64)), (27, .int .i64 (fates2.length : Int)), (28, .int .i64 ((i28 + 1) : Int))], [(0, .box [.int .u32 0, .int .u32 0, .int .i64 0, .bool false, .int .u32 0, .nils, .nils, .int .i64 0, .int .i64 0, .bool false, .bool false, .bool false, .int .u32 0, .nils]), (1, .box [.int .u32 0, .int .u32 0, .int .i64 0, .bool false, .int .u32 0, .nils, .nils, .int .i64 0, .int .i64 0, .bool false, .bool false, .bool false, .int .u32 0, .nils]), (2, .box [.int .u32 c56a.s.Own, .int .u32 c56a.s.Peer, .int .i64 c56a.s.Phase, .bool c56a.s.Leads, .int .u32 c56a.s.Seq, .ro 8 (c56a.s.Left.map THeader.c), .ro 8 (c56a.s.Got.map THeader.c), .int .i64 c56a.s.Last.MTU, .int .i64 c56a.s.Last.Options, .bool c56a.s.Last.Init, .bool c56a.s.Last.More, .bool c56a.s.Last.Master, .int .u32 c56a.s.Last.Seq, .ro 8 (c56a.s.Last.Heads.map THeader.c), .own 3 7 0 c56a.waits.length]), (3, .row 7 29 (c56a.waits.map TDesc.c)), (4, .box [.int .u32 c56b.s.Own, .int .u32 c56b.s.Peer, .int .i64 c56b.s.Phase, .bool c56b.s.Leads, .int .u32 c56b.s.Seq, .ro 8 (c56b.s.Left.map THeader.c), .ro 8 (c56b.s.Got.map THeader.c), .int .i64 c56b.s.Last.MTU, .int .i64 c56b.s.Last.Options, .bool c56b.s.Last.Init, .bool c56b.s.Last.More, .bool c56b.s.Last.Master, .int .u32 c56b.s.Last.Seq, .ro 8 (c56b.s.Last.Heads.map THeader.c), .own 5 7 0 c56b.waits.length]), (5, .row 7 29 (c56b.waits.map TDesc.c))], 6⟩ (by omega) (Conv.keep [0, 1, 2, 6, 4, 7] [] [6, 7, 8, 9, 26, 27, 28] rfl rfl (viewE_cons rfl rfl (viewE_cons rfl rfl (viewE_cons rfl rfl (viewE_cons rfl rfl (viewE_cons rfl rfl (viewE_cons rfl rfl (viewE_cons rfl rfl viewE_nil))))))) rfl rfl) ⟨i28 + 1, c56a, c56b, (by omega), rfl, hL_15, rfl⟩
      ·rw [hb40]; try simp only [hb40, bb] at hL_15
       refine WK.condT rfl ?_
       refine WK.regx mixed ?_
       refine GX.m rfl ?_
       generalize hc50 : F33_exch_end_next x8 false = c50 at hL_15
       rcases c50 with _ | c50
       ·try dsimp only at hL_15
        subst hL_15
        try dsimp only at hR
        cases hR
       try dsimp only at hL_15
       obtain ⟨c50a, c50b, c50c⟩ := c50; try dsimp only at hL_15
       refine GX.callx (r' := .tup [.agg (TDesc.c c50a), .bool c50b]) (heap' := [(0, .box [.int .u32 0, .int .u32 0, .int .i64 0, .bool false, .int .u32 0, .nils, .nils, .int .i64 0, .int .i64 0, .bool false, .bool false, .bool false, .int .u32 0, .nils]), (1, .box [.int .u32 0, .int .u32 0, .int .i64 0, .bool false, .int .u32 0, .nils, .nils, .int .i64 0, .int .i64 0, .bool false, .bool false, .bool false, .int .u32 0, .nils]), (2, .box [.int .u32 c50c.s.Own, .int .u32 c50c.s.Peer, .int .i64 c50c.s.Phase, .bool c50c.s.Leads, .int .u32 c50c.s.Seq, .ro 8 (c50c.s.Left.map THeader.c), .ro 8 (c50c.s.Got.map THeader.c), .int .i64 c50c.s.Last.MTU, .int .i64 c50c.s.Last.Options, .bool c50c.s.Last.Init, .bool c50c.s.Last.More, .bool c50c.s.Last.Master, .int .u32 c50c.s.Last.Seq, .ro 8 (c50c.s.Last.Heads.map THeader.c), .own 6 7 0 c50c.waits.length]), (4, .box [.int .u32 y9.s.Own, .int .u32 y9.s.Peer, .int .i64 y9.s.Phase, .bool y9.s.Leads, .int .u32 y9.s.Seq, .ro 8 (y9.s.Left.map THeader.c), .ro 8 (y9.s.Got.map THeader.c), .int .i64 y9.s.Last.MTU, .int .i64 y9.s.Last.Options, .bool y9.s.Last.Init, .bool y9.s.Last.More, .bool y9.s.Last.Master, .int .u32 y9.s.Last.Seq, .ro 8 (y9.s.Last.Heads.map THeader.c), .own 5 7 0 y9.waits.length]), (5, .row 7 29 (y9.waits.map TDesc.c)), (6, .row 7 29 (c50c.waits.map TDesc.c))]) (next' := 7) [2, 3] [] rfl rfl rfl rfl rfl rfl (f33_ok x8 false _ hc50) (.inl rfl) rfl rfl rfl ?_
       refine GX.done ?_
       refine WK.nil (QF.normal (hK36 _ ?_))
       refine WK.nil (QF.normal (hK17 _ ?_))
       refine WK.regx mixed ?_
       refine GX.pure (v' := .int .i64 ((i28 + 1 : Nat) : Int)) rfl rfl rfl rfl (congrArg (PVal.int .i64) (wrap_up hlt15 hlen_15)) ?_
       refine GX.m rfl ?_
       refine GX.done ?_
       refine WK.nil (QF.normal ?_)
       exact hagain_15 _ (fates2.length - (i28 + 1)) ⟨[(6, .ptr 0 0), (7, .ptr 1 0), (8, .ptr 2 0), (9, .ptr 4 0), (26, .ro 1 (fates2.map c_i64)), (27, .int .i64 (fates2.length : Int)), (28, .int .i64 ((i28 + 1) : Int))], [(0, .box [.int .u32 0, .int .u32 0, .int .i64 0, .bool false, .int .u32 0, .nils, .nils, .int .i64 0, .int .i64 0, .bool false, .bool false, .bool false, .int .u32 0, .nils]), (1, .box [.int .u32 0, .int .u32 0, .int .i64 0, .bool false, .int .u32 0, .nils, .nils, .int .i64 0, .int .i64 0, .bool false, .bool false, .bool false, .int .u32 0, .nils]), (2, .box [.int .u32 c50c.s.Own, .int .u32 c50c.s.Peer, .int .i64 c50c.s.Phase, .bool c50c.s.Leads, .int .u32 c50c.s.Seq, .ro 8 (c50c.s.Left.map THeader.c), .ro 8 (c50c.s.Got.map THeader.c), .int .i64 c50c.s.Last.MTU, .int .i64 c50c.s.Last.Options, .bool c50c.s.Last.Init, .bool c50c.s.Last.More, .bool c50c.s.Last.Master, .int .u32 c50c.s.Last.Seq, .ro 8 (c50c.s.Last.Heads.map THeader.c), .own 3 7 0 c50c.waits.length]), (3, .row 7 29 (c50c.waits.map TDesc.c)), (4, .box [.int .u32 y9.s.Own, .int .u32 y9.s.Peer, .int .i64 y9.s.Phase, .bool y9.s.Leads, .int .u32 y9.s.Seq, .ro 8 (y9.s.Left.map THeader.c), .ro 8 (y9.s.Got.map THeader.c), .int .i64 y9.s.Last.MTU, .int .i64 y9.s.Last.Options, .bool y9.s.Last.Init, .bool y9.s.Last.More, .bool y9.s.Last.Master, .int .u32 y9.s.Last.Seq, .ro 8 (y9.s.Last.Heads.map THeader.c), .own 5 7 0 y9.waits.length]), (5, .row 7 29 (y9.waits.map TDesc.c))], 6⟩ (by omega) (Conv.keep [0, 1, 2, 6, 4, 5] [] [6, 7, 8, 9, 26, 27, 28] rfl rfl (viewE_cons rfl rfl (viewE_cons rfl rfl (viewE_cons rfl rfl (viewE_cons rfl rfl (viewE_cons rfl rfl (viewE_cons rfl rfl (viewE_cons rfl rfl viewE_nil))))))) rfl rfl) ⟨i28 + 1, c50c, y9, (by omega), rfl, hL_15, rfl⟩
     ·rw [hb39]; try simp only [hb39, bb] at hL_15
      refine WK.condT rfl ?_
      refine WK.skip ?_
      refine WK.condT rfl ?_
      refine WK.regx mixed ?_
      refine GX.m rfl ?_
      generalize hc50 : F33_exch_end_next x8 false = c50 at hL_15
      rcases c50 with _ | c50
      ·try dsimp only at hL_15
       subst hL_15
       try dsimp only at hR
       cases hR
      try dsimp only at hL_15
      obtain ⟨c50a, c50b, c50c⟩ := c50; try dsimp only at hL_15
      refine GX.callx (r' := .tup [.agg (TDesc.c c50a), .bool c50b]) (heap' := [(0, .box [.int .u32 0, .int .u32 0, .int .i64 0, .bool false, .int .u32 0, .nils, .nils, .int .i64 0, .int .i64 0, .bool false, .bool false, .bool false, .int .u32 0, .nils]), (1, .box [.int .u32 0, .int .u32 0, .int .i64 0, .bool false, .int .u32 0, .nils, .nils, .int .i64 0, .int .i64 0, .bool false, .bool false, .bool false, .int .u32 0, .nils]), (2, .box [.int .u32 c50c.s.Own, .int .u32 c50c.s.Peer, .int .i64 c50c.s.Phase, .bool c50c.s.Leads, .int .u32 c50c.s.Seq, .ro 8 (c50c.s.Left.map THeader.c), .ro 8 (c50c.s.Got.map THeader.c), .int .i64 c50c.s.Last.MTU, .int .i64 c50c.s.Last.Options, .bool c50c.s.Last.Init, .bool c50c.s.Last.More, .bool c50c.s.Last.Master, .int .u32 c50c.s.Last.Seq, .ro 8 (c50c.s.Last.Heads.map THeader.c), .own 6 7 0 c50c.waits.length]), (4, .box [.int .u32 y9.s.Own, .int .u32 y9.s.Peer, .int .i64 y9.s.Phase, .bool y9.s.Leads, .int .u32 y9.s.Seq, .ro 8 (y9.s.Left.map THeader.c), .ro 8 (y9.s.Got.map THeader.c), .int .i64 y9.s.Last.MTU, .int .i64 y9.s.Last.Options, .bool y9.s.Last.Init, .bool y9.s.Last.More, .bool y9.s.Last.Master, .int .u32 y9.s.Last.Seq, .ro 8 (y9.s.Last.Heads.map THeader.c), .own 5 7 0 y9.waits.length]), (5, .row 7 29 (y9.waits.map TDesc.c)), (6, .row 7 29 (c50c.waits.map TDesc.c))]) (next' := 7) [2, 3] [] rfl rfl rfl rfl rfl rfl (f33_ok x8 false _ hc50) (.inl rfl) rfl rfl rfl ?_
      refine GX.done ?_
      refine WK.nil (QF.normal (hK36 _ ?_))
      refine WK.nil (QF.normal (hK17 _ ?_))
      refine WK.regx mixed ?_
      refine GX.pure (v' := .int .i64 ((i28 + 1 : Nat) : Int)) rfl rfl rfl rfl (congrArg (PVal.int .i64) (wrap_up hlt15 hlen_15)) ?_
      refine GX.m rfl ?_
      refine GX.done ?_
      refine WK.nil (QF.normal ?_)
      exact hagain_15 _ (fates2.length - (i28 + 1)) ⟨[(6, .ptr 0 0), (7, .ptr 1 0), (8, .ptr 2 0), (9, .ptr 4 0), (26, .ro 1 (fates2.map c_i64)), (27, .int .i64 (fates2.length : Int)), (28, .int .i64 ((i28 + 1) : Int))], [(0, .box [.int .u32 0, .int .u32 0, .int .i64 0, .bool false, .int .u32 0, .nils, .nils, .int .i64 0, .int .i64 0, .bool false, .bool false, .bool false, .int .u32 0, .nils]), (1, .box [.int .u32 0, .int .u32 0, .int .i64 0, .bool false, .int .u32 0, .nils, .nils, .int .i64 0, .int .i64 0, .bool false, .bool false, .bool false, .int .u32 0, .nils]), (2, .box [.int .u32 c50c.s.Own, .int .u32 c50c.s.Peer, .int .i64 c50c.s.Phase, .bool c50c.s.Leads, .int .u32 c50c.s.Seq, .ro 8 (c50c.s.Left.map THeader.c), .ro 8 (c50c.s.Got.map THeader.c), .int .i64 c50c.s.Last.MTU, .int .i64 c50c.s.Last.Options, .bool c50c.s.Last.Init, .bool c50c.s.Last.More, .bool c50c.s.Last.Master, .int .u32 c50c.s.Last.Seq, .ro 8 (c50c.s.Last.Heads.map THeader.c), .own 3 7 0 c50c.waits.length]), (3, .row 7 29 (c50c.waits.map TDesc.c)), (4, .box [.int .u32 y9.s.Own, .int .u32 y9.s.Peer, .int .i64 y9.s.Phase, .bool y9.s.Leads, .int .u32 y9.s.Seq, .ro 8 (y9.s.Left.map THeader.c), .ro 8 (y9.s.Got.map THeader.c), .int .i64 y9.s.Last.MTU, .int .i64 y9.s.Last.Options, .bool y9.s.Last.Init, .bool y9.s.Last.More, .bool y9.s.Last.Master, .int .u32 y9.s.Last.Seq, .ro 8 (y9.s.Last.Heads.map THeader.c), .own 5 7 0 y9.waits.length]), (5, .row 7 29 (y9.waits.map TDesc.c))], 6⟩ (by omega) (Conv.keep [0, 1, 2, 6, 4, 5] [] [6, 7, 8, 9, 26, 27, 28] rfl rfl (viewE_cons rfl rfl (viewE_cons rfl rfl (viewE_cons rfl rfl (viewE_cons rfl rfl (viewE_cons rfl rfl (viewE_cons rfl rfl (viewE_cons rfl rfl viewE_nil))))))) rfl rfl) ⟨i28 + 1, c50c, y9, (by omega), rfl, hL_15, rfl⟩
    ·rw [hb38]; try simp only [hb38, bb] at hL_15
     refine WK.condT rfl ?_
     refine WK.regx mixed ?_
     iterate 2 refine GX.m rfl ?_
     generalize hc45 : F32_exch_end_hear x8 y9 false = c45 at hL_15
     rcases c45 with _ | c45
     ·try dsimp only at hL_15
      subst hL_15
      try dsimp only at hR
      cases hR
     try dsimp only at hL_15
     obtain ⟨c45a, c45b⟩ := c45; try dsimp only at hL_15
     refine GX.callx (r' := .tup []) (heap' := [(0, .box [.int .u32 0, .int .u32 0, .int .i64 0, .bool false, .int .u32 0, .nils, .nils, .int .i64 0, .int .i64 0, .bool false, .bool false, .bool false, .int .u32 0, .nils]), (1, .box [.int .u32 0, .int .u32 0, .int .i64 0, .bool false, .int .u32 0, .nils, .nils, .int .i64 0, .int .i64 0, .bool false, .bool false, .bool false, .int .u32 0, .nils]), (2, .box [.int .u32 c45a.s.Own, .int .u32 c45a.s.Peer, .int .i64 c45a.s.Phase, .bool c45a.s.Leads, .int .u32 c45a.s.Seq, .ro 8 (c45a.s.Left.map THeader.c), .ro 8 (c45a.s.Got.map THeader.c), .int .i64 c45a.s.Last.MTU, .int .i64 c45a.s.Last.Options, .bool c45a.s.Last.Init, .bool c45a.s.Last.More, .bool c45a.s.Last.Master, .int .u32 c45a.s.Last.Seq, .ro 8 (c45a.s.Last.Heads.map THeader.c), .own 6 7 0 c45a.waits.length]), (4, .box [.int .u32 c45b.s.Own, .int .u32 c45b.s.Peer, .int .i64 c45b.s.Phase, .bool c45b.s.Leads, .int .u32 c45b.s.Seq, .ro 8 (c45b.s.Left.map THeader.c), .ro 8 (c45b.s.Got.map THeader.c), .int .i64 c45b.s.Last.MTU, .int .i64 c45b.s.Last.Options, .bool c45b.s.Last.Init, .bool c45b.s.Last.More, .bool c45b.s.Last.Master, .int .u32 c45b.s.Last.Seq, .ro 8 (c45b.s.Last.Heads.map THeader.c), .own 7 7 0 c45b.waits.length]), (7, .row 7 29 (c45b.waits.map TDesc.c)), (6, .row 7 29 (c45a.waits.map TDesc.c))]) (next' := 8) [2, 4, 3, 5] [] rfl rfl rfl rfl rfl rfl (f32_ok x8 y9 false _ hc45) (.inl rfl) rfl rfl rfl ?_
     refine GX.done ?_
     refine WK.nil (QF.normal (hK36 _ ?_))
     refine WK.nil (QF.normal (hK17 _ ?_))
     refine WK.regx mixed ?_
     refine GX.pure (v' := .int .i64 ((i28 + 1 : Nat) : Int)) rfl rfl rfl rfl (congrArg (PVal.int .i64) (wrap_up hlt15 hlen_15)) ?_
     refine GX.m rfl ?_
     refine GX.done ?_
     refine WK.nil (QF.normal ?_)
     exact hagain_15 _ (fates2.length - (i28 + 1)) ⟨[(6, .ptr 0 0), (7, .ptr 1 0), (8, .ptr 2 0), (9, .ptr 4 0), (26, .ro 1 (fates2.map c_i64)), (27, .int .i64 (fates2.length : Int)), (28, .int .i64 ((i28 + 1) : Int))], [(0, .box [.int .u32 0, .int .u32 0, .int .i64 0, .bool false, .int .u32 0, .nils, .nils, .int .i64 0, .int .i64 0, .bool false, .bool false, .bool false, .int .u32 0, .nils]), (1, .box [.int .u32 0, .int .u32 0, .int .i64 0, .bool false, .int .u32 0, .nils, .nils, .int .i64 0, .int .i64 0, .bool false, .bool false, .bool false, .int .u32 0, .nils]), (2, .box [.int .u32 c45a.s.Own, .int .u32 c45a.s.Peer, .int .i64 c45a.s.Phase, .bool c45a.s.Leads, .int .u32 c45a.s.Seq, .ro 8 (c45a.s.Left.map THeader.c), .ro 8 (c45a.s.Got.map THeader.c), .int .i64 c45a.s.Last.MTU, .int .i64 c45a.s.Last.Options, .bool c45a.s.Last.Init, .bool c45a.s.Last.More, .bool c45a.s.Last.Master, .int .u32 c45a.s.Last.Seq, .ro 8 (c45a.s.Last.Heads.map THeader.c), .own 3 7 0 c45a.waits.length]), (3, .row 7 29 (c45a.waits.map TDesc.c)), (4, .box [.int .u32 c45b.s.Own, .int .u32 c45b.s.Peer, .int .i64 c45b.s.Phase, .bool c45b.s.Leads, .int .u32 c45b.s.Seq, .ro 8 (c45b.s.Left.map THeader.c), .ro 8 (c45b.s.Got.map THeader.c), .int .i64 c45b.s.Last.MTU, .int .i64 c45b.s.Last.Options, .bool c45b.s.Last.Init, .bool c45b.s.Last.More, .bool c45b.s.Last.Master, .int .u32 c45b.s.Last.Seq, .ro 8 (c45b.s.Last.Heads.map THeader.c), .own 5 7 0 c45b.waits.length]), (5, .row 7 29 (c45b.waits.map TDesc.c))], 6⟩ (by omega) (Conv.keep [0, 1, 2, 6, 4, 7] [] [6, 7, 8, 9, 26, 27, 28] rfl rfl (viewE_cons rfl rfl (viewE_cons rfl rfl (viewE_cons rfl rfl (viewE_cons rfl rfl (viewE_cons rfl rfl (viewE_cons rfl rfl (viewE_cons rfl rfl viewE_nil))))))) rfl rfl) ⟨i28 + 1, c45a, c45b, (by omega), rfl, hL_15, rfl⟩
   ·rw [hb37]; try simp only [hb37, bb] at hL_15
    refine WK.condT rfl ?_
    refine WK.skip ?_
    refine WK.condT rfl ?_
    refine WK.regx mixed ?_
    iterate 2 refine GX.m rfl ?_
    generalize hc45 : F32_exch_end_hear x8 y9 false = c45 at hL_15
    rcases c45 with _ | c45
    ·try dsimp only at hL_15
     subst hL_15
     try dsimp only at hR
     cases hR
    try dsimp only at hL_15
    obtain ⟨c45a, c45b⟩ := c45; try dsimp only at hL_15
    refine GX.callx (r' := .tup []) (heap' := [(0, .box [.int .u32 0, .int .u32 0, .int .i64 0, .bool false, .int .u32 0, .nils, .nils, .int .i64 0, .int .i64 0, .bool false, .bool false, .bool false, .int .u32 0, .nils]), (1, .box [.int .u32 0, .int .u32 0, .int .i64 0, .bool false, .int .u32 0, .nils, .nils, .int .i64 0, .int .i64 0, .bool false, .bool false, .bool false, .int .u32 0, .nils]), (2, .box [.int .u32 c45a.s.Own, .int .u32 c45a.s.Peer, .int .i64 c45a.s.Phase, .bool c45a.s.Leads, .int .u32 c45a.s.Seq, .ro 8 (c45a.s.Left.map THeader.c), .ro 8 (c45a.s.Got.map THeader.c), .int .i64 c45a.s.Last.MTU, .int .i64 c45a.s.Last.Options, .bool c45a.s.Last.Init, .bool c45a.s.Last.More, .bool c45a.s.Last.Master, .int .u32 c45a.s.Last.Seq, .ro 8 (c45a.s.Last.Heads.map THeader.c), .own 6 7 0 c45a.waits.length]), (4, .box [.int .u32 c45b.s.Own, .int .u32 c45b.s.Peer, .int .i64 c45b.s.Phase, .bool c45b.s.Leads, .int .u32 c45b.s.Seq, .ro 8 (c45b.s.Left.map THeader.c), .ro 8 (c45b.s.Got.map THeader.c), .int .i64 c45b.s.Last.MTU, .int .i64 c45b.s.Last.Options, .bool c45b.s.Last.Init, .bool c45b.s.Last.More, .bool c45b.s.Last.Master, .int .u32 c45b.s.Last.Seq, .ro 8 (c45b.s.Last.Heads.map THeader.c), .own 7 7 0 c45b.waits.length]), (7, .row 7 29 (c45b.waits.map TDesc.c)), (6, .row 7 29 (c45a.waits.map TDesc.c))]) (next' := 8) [2, 4, 3, 5] [] rfl rfl rfl rfl rfl rfl (f32_ok x8 y9 false _ hc45) (.inl rfl) rfl rfl rfl ?_
    refine GX.done ?_
    refine WK.nil (QF.normal (hK36 _ ?_))
    refine WK.nil (QF.normal (hK17 _ ?_))
    refine WK.regx mixed ?_
    refine GX.pure (v' := .int .i64 ((i28 + 1 : Nat) : Int)) rfl rfl rfl rfl (congrArg (PVal.int .i64) (wrap_up hlt15 hlen_15)) ?_
    refine GX.m rfl ?_
    refine GX.done ?_
    refine WK.nil (QF.normal ?_)
    exact hagain_15 _ (fates2.length - (i28 + 1)) ⟨[(6, .ptr 0 0), (7, .ptr 1 0), (8, .ptr 2 0), (9, .ptr 4 0), (26, .ro 1 (fates2.map c_i64)), (27, .int .i64 (fates2.length : Int)), (28, .int .i64 ((i28 + 1) : Int))], [(0, .box [.int .u32 0, .int .u32 0, .int .i64 0, .bool false, .int .u32 0, .nils, .nils, .int .i64 0, .int .i64 0, .bool false, .bool false, .bool false, .int .u32 0, .nils]), (1, .box [.int .u32 0, .int .u32 0, .int .i64 0, .bool false, .int .u32 0, .nils, .nils, .int .i64 0, .int .i64 0, .bool false, .bool false, .bool false, .int .u32 0, .nils]), (2, .box [.int .u32 c45a.s.Own, .int .u32 c45a.s.Peer, .int .i64 c45a.s.Phase, .bool c45a.s.Leads, .int .u32 c45a.s.Seq, .ro 8 (c45a.s.Left.map THeader.c), .ro 8 (c45a.s.Got.map THeader.c), .int .i64 c45a.s.Last.MTU, .int .i64 c45a.s.Last.Options, .bool c45a.s.Last.Init, .bool c45a.s.Last.More, .bool c45a.s.Last.Master, .int .u32 c45a.s.Last.Seq, .ro 8 (c45a.s.Last.Heads.map THeader.c), .own 3 7 0 c45a.waits.length]), (3, .row 7 29 (c45a.waits.map TDesc.c)), (4, .box [.int .u32 c45b.s.Own, .int .u32 c45b.s.Peer, .int .i64 c45b.s.Phase, .bool c45b.s.Leads, .int .u32 c45b.s.Seq, .ro 8 (c45b.s.Left.map THeader.c), .ro 8 (c45b.s.Got.map THeader.c), .int .i64 c45b.s.Last.MTU, .int .i64 c45b.s.Last.Options, .bool c45b.s.Last.Init, .bool c45b.s.Last.More, .bool c45b.s.Last.Master, .int .u32 c45b.s.Last.Seq, .ro 8 (c45b.s.Last.Heads.map THeader.c), .own 5 7 0 c45b.waits.length]), (5, .row 7 29 (c45b.waits.map TDesc.c))], 6⟩ (by omega) (Conv.keep [0, 1, 2, 6, 4, 7] [] [6, 7, 8, 9, 26, 27, 28] rfl rfl (viewE_cons rfl rfl (viewE_cons rfl rfl (viewE_cons rfl rfl (viewE_cons rfl rfl (viewE_cons rfl rfl (viewE_cons rfl rfl (viewE_cons rfl rfl viewE_nil))))))) rfl rfl) ⟨i28 + 1, c45a, c45b, (by omega), rfl, hL_15, rfl⟩

theorem f5_ok (a0 : TStart) (b1 : TStart) (fates2 : List Int) (R : Bool) (hR : F5_crossroadslaw17_ExchAll a0 b1 fates2 = some R) : FnOk Try.prog 5 [.agg (TStart.c a0), .agg (TStart.c b1), .ro 1 (fates2.map c_i64)] [] 0 (.bool R) [] 0 := by
 refine FnOk.wk i5 rfl rfl ?_
 unfold F5_crossroadslaw17_ExchAll at hR
 try dsimp only at hR
 change WK _ _ _ [ac5] _ ⟨[(0, .agg (TStart.c a0)), (1, .agg (TStart.c b1)), (2, .ro 1 (fates2.map c_i64))], [], 0⟩
 unfold ac5
 refine WK.sr mixed ?_
 refine GX.step (v' := .ptr 0 0) (heap' := [(0, .box (TStart.c a0))]) (next' := 1) rfl rfl rfl rfl rfl rfl rfl ?_
 refine GX.step (v' := .ptr 1 0) (heap' := [(0, .box (TStart.c a0)), (1, .box (TStart.c b1))]) (next' := 2) rfl rfl rfl rfl rfl rfl rfl ?_
 refine GX.m rfl ?_
 refine GX.done ?_
 refine WK.seq ?_
 refine WK.sr mixed ?_
 refine GX.q (.ptr 0 3) ?_
 refine GX.q (.ro 8 (a0.Heads.map THeader.c)) ?_
 refine GX.pure (v' := .int .i64 (a0.Heads.length : Int)) rfl rfl rfl rfl (len_map _ _) ?_
 refine GX.q (.bool (decide (120 < (a0.Heads.length : Int)))) ?_
 refine GX.m rfl ?_
 rcases bool_two (decide (120 < (a0.Heads.length : Int))) with hb1 | hb1
 ·rw [hb1]; first | replace hR := cond_f hb1 hR | (try simp only [hb1, bb] at hR)
  refine GX.q (.ptr 1 3) ?_
  refine GX.q (.ro 8 (b1.Heads.map THeader.c)) ?_
  refine GX.pure (v' := .int .i64 (b1.Heads.length : Int)) rfl rfl rfl rfl (len_map _ _) ?_
  iterate 2 refine GX.q (.bool (decide (120 < (b1.Heads.length : Int)))) ?_
  refine GX.m rfl ?_
  rcases bool_two (decide (120 < (b1.Heads.length : Int))) with hb2 | hb2
  ·rw [hb2]; first | replace hR := cond_f hb2 hR | (try simp only [hb2, bb] at hR)
   refine GX.m rfl ?_
   refine GX.pure (v' := .int .i64 (fates2.length : Int)) rfl rfl rfl rfl (len_map _ _) ?_
   iterate 2 refine GX.q (.bool (decide (120 < (fates2.length : Int)))) ?_
   refine GX.m rfl ?_
   rcases bool_two (decide (120 < (fates2.length : Int))) with hb3 | hb3
   ·rw [hb3]; first | replace hR := cond_f hb3 hR | (try simp only [hb3, bb] at hR)
    refine GX.q (.ptr 0 0) ?_
    refine GX.q (.int .u32 a0.Own) ?_
    refine GX.q (.ptr 1 0) ?_
    refine GX.q (.int .u32 b1.Own) ?_
    iterate 2 refine GX.q (.bool (decide (a0.Own = b1.Own))) ?_
    refine GX.done ?_
    rcases bool_two (decide (a0.Own = b1.Own)) with hb4 | hb4
    ·rw [hb4]; first | replace hR := cond_f hb4 hR | (try simp only [hb4, bb] at hR)
     refine WK.condF rfl ?_
     refine WK.skip ?_
     refine WK.sr mixed ?_
     refine GX.q (.ptr 0 0) ?_
     refine GX.q (.int .u32 a0.Own) ?_
     refine GX.q (.ptr 1 0) ?_
     refine GX.q (.int .u32 b1.Own) ?_
     refine GX.q (.ptr 0 2) ?_
     refine GX.q (.int .u32 a0.Seq) ?_
     refine GX.q (.ptr 0 3) ?_
     refine GX.q (.ro 8 (a0.Heads.map THeader.c)) ?_
     generalize hc45 : F9_exch_Open a0.Own b1.Own a0.Seq a0.Heads = c45 at hR
     rcases c45 with _ | c45
     ·try dsimp only at hR
      cases hR
     try dsimp only at hR
     obtain ⟨c45a, c45b⟩ := c45; try dsimp only at hR
     refine GX.callp (r := .tup [.agg [.int .u32 c45a.Own, .int .u32 c45a.Peer, .int .i64 c45a.Phase, .bool c45a.Leads, .int .u32 c45a.Seq, .ro 8 (c45a.Left.map THeader.c), .ro 8 (c45a.Got.map THeader.c), .int .i64 c45a.Last.MTU, .int .i64 c45a.Last.Options, .bool c45a.Last.Init, .bool c45a.Last.More, .bool c45a.Last.Master, .int .u32 c45a.Last.Seq, .ro 8 (c45a.Last.Heads.map THeader.c)], .agg [.int .i64 c45b.MTU, .int .i64 c45b.Options, .bool c45b.Init, .bool c45b.More, .bool c45b.Master, .int .u32 c45b.Seq, .ro 8 (c45b.Heads.map THeader.c)]]) rfl rfl rfl (f9_ok a0.Own b1.Own a0.Seq a0.Heads _ hc45) rfl rfl ?_
     refine GX.m rfl ?_
     refine GX.q (.agg [.int .u32 c45a.Own, .int .u32 c45a.Peer, .int .i64 c45a.Phase, .bool c45a.Leads, .int .u32 c45a.Seq, .ro 8 (c45a.Left.map THeader.c), .ro 8 (c45a.Got.map THeader.c), .int .i64 c45a.Last.MTU, .int .i64 c45a.Last.Options, .bool c45a.Last.Init, .bool c45a.Last.More, .bool c45a.Last.Master, .int .u32 c45a.Last.Seq, .ro 8 (c45a.Last.Heads.map THeader.c)]) ?_
     refine GX.q (.agg [.int .i64 c45b.MTU, .int .i64 c45b.Options, .bool c45b.Init, .bool c45b.More, .bool c45b.Master, .int .u32 c45b.Seq, .ro 8 (c45b.Heads.map THeader.c)]) ?_
     refine GX.step (v' := .ptr 2 0) (heap' := [(0, .box (TStart.c a0)), (1, .box (TStart.c b1)), (2, .box [.int .u32 0, .int .u32 0, .int .i64 0, .bool false, .int .u32 0, .nils, .nils, .int .i64 0, .int .i64 0, .bool false, .bool false, .bool false, .int .u32 0, .nils])]) (next' := 3) rfl rfl rfl rfl rfl rfl rfl ?_
     refine GX.step (v' := .ptr 3 0) (heap' := [(0, .box (TStart.c a0)), (1, .box (TStart.c b1)), (2, .box [.int .u32 0, .int .u32 0, .int .i64 0, .bool false, .int .u32 0, .nils, .nils, .int .i64 0, .int .i64 0, .bool false, .bool false, .bool false, .int .u32 0, .nils]), (3, .box [.int .i64 0, .int .i64 0, .bool false, .bool false, .bool false, .int .u32 0, .nils])]) (next' := 4) rfl rfl rfl rfl rfl rfl rfl ?_
     refine GX.step0 (heap' := [(0, .box (TStart.c a0)), (1, .box (TStart.c b1)), (2, .box (TSession.c c45a)), (3, .box [.int .i64 0, .int .i64 0, .bool false, .bool false, .bool false, .int .u32 0, .nils])]) (next' := 4) rfl rfl rfl rfl rfl ?_
     refine GX.step0 (heap' := [(0, .box (TStart.c a0)), (1, .box (TStart.c b1)), (2, .box (TSession.c c45a)), (3, .box (TDesc.c c45b))]) (next' := 4) rfl rfl rfl rfl rfl ?_
     refine GX.done ?_
     refine WK.sr mixed ?_
     refine GX.q (.ptr 1 0) ?_
     refine GX.q (.int .u32 b1.Own) ?_
     refine GX.q (.ptr 0 0) ?_
     refine GX.q (.int .u32 a0.Own) ?_
     refine GX.q (.ptr 1 2) ?_
     refine GX.q (.int .u32 b1.Seq) ?_
     refine GX.q (.ptr 1 3) ?_
     refine GX.q (.ro 8 (b1.Heads.map THeader.c)) ?_
     generalize hc57 : F9_exch_Open b1.Own a0.Own b1.Seq b1.Heads = c57 at hR
     rcases c57 with _ | c57
     ·try dsimp only at hR
      cases hR
     try dsimp only at hR
     obtain ⟨c57a, c57b⟩ := c57; try dsimp only at hR
     refine GX.callp (r := .tup [.agg [.int .u32 c57a.Own, .int .u32 c57a.Peer, .int .i64 c57a.Phase, .bool c57a.Leads, .int .u32 c57a.Seq, .ro 8 (c57a.Left.map THeader.c), .ro 8 (c57a.Got.map THeader.c), .int .i64 c57a.Last.MTU, .int .i64 c57a.Last.Options, .bool c57a.Last.Init, .bool c57a.Last.More, .bool c57a.Last.Master, .int .u32 c57a.Last.Seq, .ro 8 (c57a.Last.Heads.map THeader.c)], .agg [.int .i64 c57b.MTU, .int .i64 c57b.Options, .bool c57b.Init, .bool c57b.More, .bool c57b.Master, .int .u32 c57b.Seq, .ro 8 (c57b.Heads.map THeader.c)]]) rfl rfl rfl (f9_ok b1.Own a0.Own b1.Seq b1.Heads _ hc57) rfl rfl ?_
     refine GX.m rfl ?_
     refine GX.q (.agg [.int .u32 c57a.Own, .int .u32 c57a.Peer, .int .i64 c57a.Phase, .bool c57a.Leads, .int .u32 c57a.Seq, .ro 8 (c57a.Left.map THeader.c), .ro 8 (c57a.Got.map THeader.c), .int .i64 c57a.Last.MTU, .int .i64 c57a.Last.Options, .bool c57a.Last.Init, .bool c57a.Last.More, .bool c57a.Last.Master, .int .u32 c57a.Last.Seq, .ro 8 (c57a.Last.Heads.map THeader.c)]) ?_
     refine GX.q (.agg [.int .i64 c57b.MTU, .int .i64 c57b.Options, .bool c57b.Init, .bool c57b.More, .bool c57b.Master, .int .u32 c57b.Seq, .ro 8 (c57b.Heads.map THeader.c)]) ?_
     refine GX.step (v' := .ptr 4 0) (heap' := [(0, .box (TStart.c a0)), (1, .box (TStart.c b1)), (2, .box (TSession.c c45a)), (3, .box (TDesc.c c45b)), (4, .box [.int .u32 0, .int .u32 0, .int .i64 0, .bool false, .int .u32 0, .nils, .nils, .int .i64 0, .int .i64 0, .bool false, .bool false, .bool false, .int .u32 0, .nils])]) (next' := 5) rfl rfl rfl rfl rfl rfl rfl ?_
     refine GX.step (v' := .ptr 5 0) (heap' := [(0, .box (TStart.c a0)), (1, .box (TStart.c b1)), (2, .box (TSession.c c45a)), (3, .box (TDesc.c c45b)), (4, .box [.int .u32 0, .int .u32 0, .int .i64 0, .bool false, .int .u32 0, .nils, .nils, .int .i64 0, .int .i64 0, .bool false, .bool false, .bool false, .int .u32 0, .nils]), (5, .box [.int .i64 0, .int .i64 0, .bool false, .bool false, .bool false, .int .u32 0, .nils])]) (next' := 6) rfl rfl rfl rfl rfl rfl rfl ?_
     refine GX.step0 (heap' := [(0, .box (TStart.c a0)), (1, .box (TStart.c b1)), (2, .box (TSession.c c45a)), (3, .box (TDesc.c c45b)), (4, .box (TSession.c c57a)), (5, .box [.int .i64 0, .int .i64 0, .bool false, .bool false, .bool false, .int .u32 0, .nils])]) (next' := 6) rfl rfl rfl rfl rfl ?_
     refine GX.step0 (heap' := [(0, .box (TStart.c a0)), (1, .box (TStart.c b1)), (2, .box (TSession.c c45a)), (3, .box (TDesc.c c45b)), (4, .box (TSession.c c57a)), (5, .box (TDesc.c c57b))]) (next' := 6) rfl rfl rfl rfl rfl ?_
     refine GX.done ?_
     refine WK.sr mixed ?_
     refine GX.q (.agg (TSession.c c45a)) ?_
     refine GX.q (.agg (TSession.c c57a)) ?_
     refine GX.m rfl ?_
     generalize hc64 : F19_exch_Run c45a c57a fates2 = c64 at hR
     rcases c64 with _ | c64
     ·try dsimp only at hR
      cases hR
     try dsimp only at hR
     obtain ⟨c64a, c64b⟩ := c64; try dsimp only at hR
     refine GX.callp (r := .tup [.agg [.int .u32 c64a.Own, .int .u32 c64a.Peer, .int .i64 c64a.Phase, .bool c64a.Leads, .int .u32 c64a.Seq, .ro 8 (c64a.Left.map THeader.c), .ro 8 (c64a.Got.map THeader.c), .int .i64 c64a.Last.MTU, .int .i64 c64a.Last.Options, .bool c64a.Last.Init, .bool c64a.Last.More, .bool c64a.Last.Master, .int .u32 c64a.Last.Seq, .ro 8 (c64a.Last.Heads.map THeader.c)], .agg [.int .u32 c64b.Own, .int .u32 c64b.Peer, .int .i64 c64b.Phase, .bool c64b.Leads, .int .u32 c64b.Seq, .ro 8 (c64b.Left.map THeader.c), .ro 8 (c64b.Got.map THeader.c), .int .i64 c64b.Last.MTU, .int .i64 c64b.Last.Options, .bool c64b.Last.Init, .bool c64b.Last.More, .bool c64b.Last.Master, .int .u32 c64b.Last.Seq, .ro 8 (c64b.Last.Heads.map THeader.c)]]) rfl rfl rfl (f19_ok c45a c57a fates2 _ hc64) rfl rfl ?_
     refine GX.m rfl ?_
     refine GX.q (.agg [.int .u32 c64a.Own, .int .u32 c64a.Peer, .int .i64 c64a.Phase, .bool c64a.Leads, .int .u32 c64a.Seq, .ro 8 (c64a.Left.map THeader.c), .ro 8 (c64a.Got.map THeader.c), .int .i64 c64a.Last.MTU, .int .i64 c64a.Last.Options, .bool c64a.Last.Init, .bool c64a.Last.More, .bool c64a.Last.Master, .int .u32 c64a.Last.Seq, .ro 8 (c64a.Last.Heads.map THeader.c)]) ?_
     refine GX.q (.agg [.int .u32 c64b.Own, .int .u32 c64b.Peer, .int .i64 c64b.Phase, .bool c64b.Leads, .int .u32 c64b.Seq, .ro 8 (c64b.Left.map THeader.c), .ro 8 (c64b.Got.map THeader.c), .int .i64 c64b.Last.MTU, .int .i64 c64b.Last.Options, .bool c64b.Last.Init, .bool c64b.Last.More, .bool c64b.Last.Master, .int .u32 c64b.Last.Seq, .ro 8 (c64b.Last.Heads.map THeader.c)]) ?_
     refine GX.step (v' := .ptr 6 0) (heap' := [(0, .box (TStart.c a0)), (1, .box (TStart.c b1)), (2, .box (TSession.c c45a)), (3, .box (TDesc.c c45b)), (4, .box (TSession.c c57a)), (5, .box (TDesc.c c57b)), (6, .box [.int .u32 0, .int .u32 0, .int .i64 0, .bool false, .int .u32 0, .nils, .nils, .int .i64 0, .int .i64 0, .bool false, .bool false, .bool false, .int .u32 0, .nils])]) (next' := 7) rfl rfl rfl rfl rfl rfl rfl ?_
     refine GX.step (v' := .ptr 7 0) (heap' := [(0, .box (TStart.c a0)), (1, .box (TStart.c b1)), (2, .box (TSession.c c45a)), (3, .box (TDesc.c c45b)), (4, .box (TSession.c c57a)), (5, .box (TDesc.c c57b)), (6, .box [.int .u32 0, .int .u32 0, .int .i64 0, .bool false, .int .u32 0, .nils, .nils, .int .i64 0, .int .i64 0, .bool false, .bool false, .bool false, .int .u32 0, .nils]), (7, .box [.int .u32 0, .int .u32 0, .int .i64 0, .bool false, .int .u32 0, .nils, .nils, .int .i64 0, .int .i64 0, .bool false, .bool false, .bool false, .int .u32 0, .nils])]) (next' := 8) rfl rfl rfl rfl rfl rfl rfl ?_
     refine GX.step0 (heap' := [(0, .box (TStart.c a0)), (1, .box (TStart.c b1)), (2, .box (TSession.c c45a)), (3, .box (TDesc.c c45b)), (4, .box (TSession.c c57a)), (5, .box (TDesc.c c57b)), (6, .box (TSession.c c64a)), (7, .box [.int .u32 0, .int .u32 0, .int .i64 0, .bool false, .int .u32 0, .nils, .nils, .int .i64 0, .int .i64 0, .bool false, .bool false, .bool false, .int .u32 0, .nils])]) (next' := 8) rfl rfl rfl rfl rfl ?_
     refine GX.step0 (heap' := [(0, .box (TStart.c a0)), (1, .box (TStart.c b1)), (2, .box (TSession.c c45a)), (3, .box (TDesc.c c45b)), (4, .box (TSession.c c57a)), (5, .box (TDesc.c c57b)), (6, .box (TSession.c c64a)), (7, .box (TSession.c c64b))]) (next' := 8) rfl rfl rfl rfl rfl ?_
     refine GX.done ?_
     iterate 2 refine WK.seq ?_
     refine WK.drawn mixed ?_
     refine RD.q (.ptr 6 6) ?_
     refine RD.q (.ro 8 (c64a.Got.map THeader.c)) ?_
     refine RD.pure (v' := .int .i64 (c64a.Got.length : Int)) rfl rfl rfl rfl (len_map _ _) ?_
     refine RD.q (.ptr 1 3) ?_
     refine RD.q (.ro 8 (b1.Heads.map THeader.c)) ?_
     refine RD.pure (v' := .int .i64 (b1.Heads.length : Int)) rfl rfl rfl rfl (len_map _ _) ?_
     refine RD.q (.bool (decide ((b1.Heads.length : Int) < (c64a.Got.length : Int)))) ?_
     refine RD.m rfl ?_
     rcases bool_two (decide ((b1.Heads.length : Int) < (c64a.Got.length : Int))) with hb5 | hb5
     ·rw [hb5]; first | replace hR := cond_f hb5 hR | (try simp only [hb5, bb] at hR)
      refine RD.q (.ptr 7 6) ?_
      refine RD.q (.ro 8 (c64b.Got.map THeader.c)) ?_
      refine RD.pure (v' := .int .i64 (c64b.Got.length : Int)) rfl rfl rfl rfl (len_map _ _) ?_
      refine RD.q (.ptr 0 3) ?_
      refine RD.q (.ro 8 (a0.Heads.map THeader.c)) ?_
      refine RD.pure (v' := .int .i64 (a0.Heads.length : Int)) rfl rfl rfl rfl (len_map _ _) ?_
      iterate 2 refine RD.q (.bool (decide ((a0.Heads.length : Int) < (c64b.Got.length : Int)))) ?_
      refine RD.m rfl ?_
      rcases bool_two (decide ((a0.Heads.length : Int) < (c64b.Got.length : Int))) with hb6 | hb6
      ·rw [hb6]; first | replace hR := cond_f hb6 hR | (try simp only [hb6, bb] at hR)
       refine RD.q (.ptr 6 6) ?_
       refine RD.q (.ro 8 (c64a.Got.map THeader.c)) ?_
       refine RD.q (.ptr 1 3) ?_
       refine RD.q (.ro 8 (b1.Heads.map THeader.c)) ?_
       refine RD.q (.ptr 6 6) ?_
       refine RD.q (.ro 8 (c64a.Got.map THeader.c)) ?_
       refine RD.pure (v' := .int .i64 (c64a.Got.length : Int)) rfl rfl rfl rfl (len_map _ _) ?_
       rcases bool_two (decide ((0 : Int) ≤ (c64a.Got.length : Int))) with hg7 | hg7
       ·simp only [hg7, bb] at hR
        try dsimp only at hR
        cases hR
       simp only [hg7, bb] at hR
       have hg7_ := of_decide_eq_true hg7
       rcases bool_two (decide ((c64a.Got.length : Int) ≤ (b1.Heads.length : Int))) with hg8 | hg8
       ·simp only [hg8, bb] at hR
        try dsimp only at hR
        cases hR
       simp only [hg8, bb] at hR
       have hg8_ := of_decide_eq_true hg8
       refine RD.sliceHi (c := THeader.c) (M := (b1.Heads.take (c64a.Got.length : Int).toNat)) rfl rfl rfl (by omega) (by omega) rfl ?_
       generalize hc92 : F21_crossroadsref13_Heads c64a.Got (b1.Heads.take (c64a.Got.length : Int).toNat) = c92 at hR
       try dsimp only at hR
       refine RD.callp (r := .bool c92) rfl rfl rfl (f21_ok c64a.Got (b1.Heads.take (c64a.Got.length : Int).toNat) _ hc92) rfl rfl ?_
       iterate 2 refine RD.q (.bool (!c92)) ?_
       refine RD.m rfl ?_
       rcases bool_two (c92) with hb9 | hb9
       ·rw [hb9]; first | replace hR := cond_f hb9 hR | (try simp only [hb9, bb] at hR)
        iterate 10 refine RD.skip rfl rfl ?_
        refine RD.q (.bool true) ?_
        refine RD.doneB [0, 1, 3, 0, 8, 24, 63, 127, 255, 511, 1023, 255, 2303, 6399, 16383, 32767, 65535, 131071, 262143, 131071, 655359, 131071, 2228223, 6422527, 16383999, 33554431, 67108863, 134217727, 268435455, 536870911, 1073741823, 536870911, 2684354559, 536870911, 9126805503, 26306674687, 67108863999, 137438953471, 274877906943, 549755813887] (by kernel_rfl) (by kernel_rfl) (by kernel_rfl) ?_
        refine WK.condT rfl ?_
        refine WK.sr mixed ?_
        refine GX.m rfl ?_
        refine GX.done ?_
        refine WK.ret ?_
        obtain rfl := Option.some.inj hR
        exact RetQ.fr [] (.inr rfl) rfl rfl rfl rfl
       ·rw [hb9]; first | replace hR := cond_t hb9 hR | (try simp only [hb9, bb] at hR)
        refine RD.q (.ptr 7 6) ?_
        refine RD.q (.ro 8 (c64b.Got.map THeader.c)) ?_
        refine RD.q (.ptr 0 3) ?_
        refine RD.q (.ro 8 (a0.Heads.map THeader.c)) ?_
        refine RD.q (.ptr 7 6) ?_
        refine RD.q (.ro 8 (c64b.Got.map THeader.c)) ?_
        refine RD.pure (v' := .int .i64 (c64b.Got.length : Int)) rfl rfl rfl rfl (len_map _ _) ?_
        rcases bool_two (decide ((0 : Int) ≤ (c64b.Got.length : Int))) with hg10 | hg10
        ·simp only [hg10, bb] at hR
         try dsimp only at hR
         cases hR
        simp only [hg10, bb] at hR
        have hg10_ := of_decide_eq_true hg10
        rcases bool_two (decide ((c64b.Got.length : Int) ≤ (a0.Heads.length : Int))) with hg11 | hg11
        ·simp only [hg11, bb] at hR
         try dsimp only at hR
         cases hR
        simp only [hg11, bb] at hR
        have hg11_ := of_decide_eq_true hg11
        refine RD.sliceHi (c := THeader.c) (M := (a0.Heads.take (c64b.Got.length : Int).toNat)) rfl rfl rfl (by omega) (by omega) rfl ?_
        generalize hc104 : F21_crossroadsref13_Heads c64b.Got (a0.Heads.take (c64b.Got.length : Int).toNat) = c104 at hR
        try dsimp only at hR
        refine RD.callp (r := .bool c104) rfl rfl rfl (f21_ok c64b.Got (a0.Heads.take (c64b.Got.length : Int).toNat) _ hc104) rfl rfl ?_
        iterate 2 refine RD.q (.bool (!c104)) ?_
        refine RD.doneB [0, 1, 3, 0, 8, 24, 63, 127, 255, 511, 1023, 255, 2303, 6399, 16383, 32767, 65535, 131071, 262143, 131071, 655359, 131071, 2228223, 6422527, 16383999, 33554431, 67108863, 134217727, 268435455, 536870911, 1073741823, 536870911, 2684354559, 536870911, 9126805503, 26306674687, 67108863999, 137438953471, 274877906943, 549755813887] (by kernel_rfl) (by kernel_rfl) (by kernel_rfl) ?_
        rcases bool_two (c104) with hb12 | hb12
        ·rw [hb12]; first | replace hR := cond_f hb12 hR | (try simp only [hb12, bb] at hR)
         refine WK.condT rfl ?_
         refine WK.sr mixed ?_
         refine GX.m rfl ?_
         refine GX.done ?_
         refine WK.ret ?_
         obtain rfl := Option.some.inj hR
         exact RetQ.fr [] (.inr rfl) rfl rfl rfl rfl
        ·rw [hb12]; first | replace hR := cond_t hb12 hR | (try simp only [hb12, bb] at hR)
         refine WK.condF rfl ?_
         refine WK.skip ?_
         refine WK.seq ?_
         refine WK.sr mixed ?_
         refine GX.q (.ptr 6 2) ?_
         refine GX.q (.int .i64 c64a.Phase) ?_
         refine GX.q (.bool (!decide (c64a.Phase = 2))) ?_
         refine GX.m rfl ?_
         rcases bool_two (decide (c64a.Phase = 2)) with hb13 | hb13
         ·rw [hb13]; first | replace hR := cond_f hb13 hR | (try simp only [hb13, bb] at hR)
          iterate 3 refine GX.skip rfl rfl ?_
          refine GX.q (.bool true) ?_
          refine GX.done ?_
          refine WK.condT rfl ?_
          refine WK.sr mixed ?_
          generalize hc115 : F8_crossroadslaw17_alive = c115 at hR
          rcases c115 with _ | c115
          ·try dsimp only at hR
           cases hR
          try dsimp only at hR
          try dsimp only at hR
          refine GX.callp (r := .bool c115) rfl rfl rfl (f8_ok  _ hc115) rfl rfl ?_
          refine GX.m rfl ?_
          refine GX.done ?_
          refine WK.ret ?_
          obtain rfl := Option.some.inj hR
          exact RetQ.fr [] (.inr rfl) rfl rfl rfl rfl
         ·rw [hb13]; first | replace hR := cond_t hb13 hR | (try simp only [hb13, bb] at hR)
          refine GX.q (.ptr 7 2) ?_
          refine GX.q (.int .i64 c64b.Phase) ?_
          iterate 2 refine GX.q (.bool (!decide (c64b.Phase = 2))) ?_
          refine GX.done ?_
          rcases bool_two (decide (c64b.Phase = 2)) with hb14 | hb14
          ·rw [hb14]; first | replace hR := cond_f hb14 hR | (try simp only [hb14, bb] at hR)
           refine WK.condT rfl ?_
           refine WK.sr mixed ?_
           generalize hc115 : F8_crossroadslaw17_alive = c115 at hR
           rcases c115 with _ | c115
           ·try dsimp only at hR
            cases hR
           try dsimp only at hR
           try dsimp only at hR
           refine GX.callp (r := .bool c115) rfl rfl rfl (f8_ok  _ hc115) rfl rfl ?_
           refine GX.m rfl ?_
           refine GX.done ?_
           refine WK.ret ?_
           obtain rfl := Option.some.inj hR
           exact RetQ.fr [] (.inr rfl) rfl rfl rfl rfl
          ·rw [hb14]; first | replace hR := cond_t hb14 hR | (try simp only [hb14, bb] at hR)
           refine WK.condF rfl ?_
           refine WK.skip ?_
           refine WK.sr mixed ?_
           generalize hc116 : F8_crossroadslaw17_alive = c116 at hR
           rcases c116 with _ | c116
           ·try dsimp only at hR
            cases hR
           try dsimp only at hR
           try dsimp only at hR
           refine GX.callp (r := .bool c116) rfl rfl rfl (f8_ok  _ hc116) rfl rfl ?_
           refine GX.m rfl ?_
           rcases bool_two (c116) with hb15 | hb15
           ·rw [hb15]; first | replace hR := cond_f hb15 hR | (try simp only [hb15, bb] at hR)
            iterate 7 refine GX.skip rfl rfl ?_
            refine GX.q (.bool false) ?_
            refine GX.m rfl ?_
            iterate 7 refine GX.skip rfl rfl ?_
            refine GX.q (.bool false) ?_
            refine GX.m rfl ?_
            iterate 5 refine GX.skip rfl rfl ?_
            refine GX.q (.bool false) ?_
            refine GX.m rfl ?_
            refine GX.done ?_
            refine WK.ret ?_
            obtain rfl := Option.some.inj hR
            exact RetQ.fr [] (.inr rfl) rfl rfl rfl rfl
           ·rw [hb15]; first | replace hR := cond_t hb15 hR | (try simp only [hb15, bb] at hR)
            refine GX.q (.ptr 6 6) ?_
            refine GX.q (.ro 8 (c64a.Got.map THeader.c)) ?_
            refine GX.pure (v' := .int .i64 (c64a.Got.length : Int)) rfl rfl rfl rfl (len_map _ _) ?_
            refine GX.q (.ptr 1 3) ?_
            refine GX.q (.ro 8 (b1.Heads.map THeader.c)) ?_
            refine GX.pure (v' := .int .i64 (b1.Heads.length : Int)) rfl rfl rfl rfl (len_map _ _) ?_
            iterate 2 refine GX.q (.bool (decide ((c64a.Got.length : Int) = (b1.Heads.length : Int)))) ?_
            refine GX.m rfl ?_
            rcases bool_two (decide ((c64a.Got.length : Int) = (b1.Heads.length : Int))) with hb16 | hb16
            ·rw [hb16]; first | replace hR := cond_f hb16 hR | (try simp only [hb16, bb] at hR)
             iterate 7 refine GX.skip rfl rfl ?_
             refine GX.q (.bool false) ?_
             refine GX.m rfl ?_
             iterate 5 refine GX.skip rfl rfl ?_
             refine GX.q (.bool false) ?_
             refine GX.m rfl ?_
             refine GX.done ?_
             refine WK.ret ?_
             obtain rfl := Option.some.inj hR
             exact RetQ.fr [] (.inr rfl) rfl rfl rfl rfl
            ·rw [hb16]; first | replace hR := cond_t hb16 hR | (try simp only [hb16, bb] at hR)
             refine GX.q (.ptr 7 6) ?_
             refine GX.q (.ro 8 (c64b.Got.map THeader.c)) ?_
             refine GX.pure (v' := .int .i64 (c64b.Got.length : Int)) rfl rfl rfl rfl (len_map _ _) ?_
             refine GX.q (.ptr 0 3) ?_
             refine GX.q (.ro 8 (a0.Heads.map THeader.c)) ?_
             refine GX.pure (v' := .int .i64 (a0.Heads.length : Int)) rfl rfl rfl rfl (len_map _ _) ?_
             iterate 2 refine GX.q (.bool (decide ((c64b.Got.length : Int) = (a0.Heads.length : Int)))) ?_
             refine GX.m rfl ?_
             rcases bool_two (decide ((c64b.Got.length : Int) = (a0.Heads.length : Int))) with hb17 | hb17
             ·rw [hb17]; first | replace hR := cond_f hb17 hR | (try simp only [hb17, bb] at hR)
              iterate 5 refine GX.skip rfl rfl ?_
              refine GX.q (.bool false) ?_
              refine GX.m rfl ?_
              refine GX.done ?_
              refine WK.ret ?_
              obtain rfl := Option.some.inj hR
              exact RetQ.fr [] (.inr rfl) rfl rfl rfl rfl
             ·rw [hb17]; first | replace hR := cond_t hb17 hR | (try simp only [hb17, bb] at hR)
              refine GX.q (.ptr 6 3) ?_
              refine GX.q (.bool c64a.Leads) ?_
              refine GX.q (.ptr 7 3) ?_
              refine GX.q (.bool c64b.Leads) ?_
              iterate 2 refine GX.q (.bool (!(c64a.Leads == c64b.Leads))) ?_
              refine GX.m rfl ?_
              refine GX.done ?_
              refine WK.ret ?_
              obtain rfl := Option.some.inj hR
              exact RetQ.fr [] (.inr rfl) rfl rfl rfl rfl
      ·rw [hb6]; first | replace hR := cond_t hb6 hR | (try simp only [hb6, bb] at hR)
       iterate 10 refine RD.skip rfl rfl ?_
       refine RD.q (.bool true) ?_
       refine RD.m rfl ?_
       iterate 10 refine RD.skip rfl rfl ?_
       refine RD.q (.bool true) ?_
       refine RD.doneB [0, 1, 3, 0, 8, 24, 63, 127, 255, 511, 1023, 255, 2303, 6399, 16383, 32767, 65535, 131071, 262143, 131071, 655359, 131071, 2228223, 6422527, 16383999, 33554431, 67108863, 134217727, 268435455, 536870911, 1073741823, 536870911, 2684354559, 536870911, 9126805503, 26306674687, 67108863999, 137438953471, 274877906943, 549755813887] (by kernel_rfl) (by kernel_rfl) (by kernel_rfl) ?_
       refine WK.condT rfl ?_
       refine WK.sr mixed ?_
       refine GX.m rfl ?_
       refine GX.done ?_
       refine WK.ret ?_
       obtain rfl := Option.some.inj hR
       exact RetQ.fr [] (.inr rfl) rfl rfl rfl rfl
     ·rw [hb5]; first | replace hR := cond_t hb5 hR | (try simp only [hb5, bb] at hR)
      iterate 7 refine RD.skip rfl rfl ?_
      refine RD.q (.bool true) ?_
      refine RD.m rfl ?_
      iterate 10 refine RD.skip rfl rfl ?_
      refine RD.q (.bool true) ?_
      refine RD.m rfl ?_
      iterate 10 refine RD.skip rfl rfl ?_
      refine RD.q (.bool true) ?_
      refine RD.doneB [0, 1, 3, 0, 8, 24, 63, 127, 255, 511, 1023, 255, 2303, 6399, 16383, 32767, 65535, 131071, 262143, 131071, 655359, 131071, 2228223, 6422527, 16383999, 33554431, 67108863, 134217727, 268435455, 536870911, 1073741823, 536870911, 2684354559, 536870911, 9126805503, 26306674687, 67108863999, 137438953471, 274877906943, 549755813887] (by kernel_rfl) (by kernel_rfl) (by kernel_rfl) ?_
      refine WK.condT rfl ?_
      refine WK.sr mixed ?_
      refine GX.m rfl ?_
      refine GX.done ?_
      refine WK.ret ?_
      obtain rfl := Option.some.inj hR
      exact RetQ.fr [] (.inr rfl) rfl rfl rfl rfl
    ·rw [hb4]; first | replace hR := cond_t hb4 hR | (try simp only [hb4, bb] at hR)
     refine WK.condT rfl ?_
     refine WK.sr mixed ?_
     generalize hc35 : F8_crossroadslaw17_alive = c35 at hR
     rcases c35 with _ | c35
     ·try dsimp only at hR
      cases hR
     try dsimp only at hR
     try dsimp only at hR
     refine GX.callp (r := .bool c35) rfl rfl rfl (f8_ok  _ hc35) rfl rfl ?_
     refine GX.m rfl ?_
     refine GX.done ?_
     refine WK.ret ?_
     obtain rfl := Option.some.inj hR
     exact RetQ.fr [] (.inr rfl) rfl rfl rfl rfl
   ·rw [hb3]; first | replace hR := cond_t hb3 hR | (try simp only [hb3, bb] at hR)
    iterate 5 refine GX.skip rfl rfl ?_
    refine GX.q (.bool true) ?_
    refine GX.done ?_
    refine WK.condT rfl ?_
    refine WK.sr mixed ?_
    generalize hc35 : F8_crossroadslaw17_alive = c35 at hR
    rcases c35 with _ | c35
    ·try dsimp only at hR
     cases hR
    try dsimp only at hR
    try dsimp only at hR
    refine GX.callp (r := .bool c35) rfl rfl rfl (f8_ok  _ hc35) rfl rfl ?_
    refine GX.m rfl ?_
    refine GX.done ?_
    refine WK.ret ?_
    obtain rfl := Option.some.inj hR
    exact RetQ.fr [] (.inr rfl) rfl rfl rfl rfl
  ·rw [hb2]; first | replace hR := cond_t hb2 hR | (try simp only [hb2, bb] at hR)
   iterate 3 refine GX.skip rfl rfl ?_
   refine GX.q (.bool true) ?_
   refine GX.m rfl ?_
   iterate 5 refine GX.skip rfl rfl ?_
   refine GX.q (.bool true) ?_
   refine GX.done ?_
   refine WK.condT rfl ?_
   refine WK.sr mixed ?_
   generalize hc35 : F8_crossroadslaw17_alive = c35 at hR
   rcases c35 with _ | c35
   ·try dsimp only at hR
    cases hR
   try dsimp only at hR
   try dsimp only at hR
   refine GX.callp (r := .bool c35) rfl rfl rfl (f8_ok  _ hc35) rfl rfl ?_
   refine GX.m rfl ?_
   refine GX.done ?_
   refine WK.ret ?_
   obtain rfl := Option.some.inj hR
   exact RetQ.fr [] (.inr rfl) rfl rfl rfl rfl
 ·rw [hb1]; first | replace hR := cond_t hb1 hR | (try simp only [hb1, bb] at hR)
  iterate 4 refine GX.skip rfl rfl ?_
  refine GX.q (.bool true) ?_
  refine GX.m rfl ?_
  iterate 3 refine GX.skip rfl rfl ?_
  refine GX.q (.bool true) ?_
  refine GX.m rfl ?_
  iterate 5 refine GX.skip rfl rfl ?_
  refine GX.q (.bool true) ?_
  refine GX.done ?_
  refine WK.condT rfl ?_
  refine WK.sr mixed ?_
  generalize hc35 : F8_crossroadslaw17_alive = c35 at hR
  rcases c35 with _ | c35
  ·try dsimp only at hR
   cases hR
  try dsimp only at hR
  try dsimp only at hR
  refine GX.callp (r := .bool c35) rfl rfl rfl (f8_ok  _ hc35) rfl rfl ?_
  refine GX.m rfl ?_
  refine GX.done ?_
  refine WK.ret ?_
  obtain rfl := Option.some.inj hR
  exact RetQ.fr [] (.inr rfl) rfl rfl rfl rfl

end Go.Proofs.Ytbmdpedhobkeeaa.Abs
