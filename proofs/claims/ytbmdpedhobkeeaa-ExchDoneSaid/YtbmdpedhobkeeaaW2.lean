/- The functions walked: each computes its Lean function (printed by this work's own program gen.py). -/
import Derived.Test.YtbmdpedhobkeeaaSq
import Derived.Test.YtbmdpedhobkeeaaW1
set_option linter.unusedVariables false
set_option linter.unusedSimpArgs false
set_option maxRecDepth 10000
set_option maxHeartbeats 4000000
namespace Go.Proofs.Ytbmdpedhobkeeaa.Abs
open Go

theorem f19_ok (a0 : TSession) (b1 : TSession) (fates2 : List Int) (R : TSession × TSession) (hR : F19_exch_Run a0 b1 fates2 = some R) : FnOk Try.prog 19 [.agg (TSession.c a0), .agg (TSession.c b1), .ro 1 (fates2.map c_i64)] [] 0 (.tup [.agg (TSession.c R.1), .agg (TSession.c R.2)]) [] 0 := by
 refine FnOk.wk i19 rfl rfl ?_
 unfold F19_exch_Run at hR
 try dsimp only at hR
 change WK _ _ _ [ac19] _ ⟨[(0, .agg (TSession.c a0)), (1, .agg (TSession.c b1)), (2, .ro 1 (fates2.map c_i64))], [], 0⟩
 unfold ac19
 refine WK.sr mixed ?_
 refine GX.step (v' := .ptr 0 0) (heap' := [(0, .box (TSession.c a0))]) (next' := 1) rfl rfl rfl rfl rfl rfl rfl ?_
 refine GX.step (v' := .ptr 1 0) (heap' := [(0, .box (TSession.c a0)), (1, .box (TSession.c b1))]) (next' := 2) rfl rfl rfl rfl rfl rfl rfl ?_
 refine GX.step (v' := .ptr 2 0) (heap' := [(0, .box (TSession.c a0)), (1, .box (TSession.c b1)), (2, .box [.int .u32 0, .int .u32 0, .int .i64 0, .bool false, .int .u32 0, .nils, .nils, .int .i64 0, .int .i64 0, .bool false, .bool false, .bool false, .int .u32 0, .nils])]) (next' := 3) rfl rfl rfl rfl rfl rfl rfl ?_
 refine GX.step (v' := .ptr 3 0) (heap' := [(0, .box (TSession.c a0)), (1, .box (TSession.c b1)), (2, .box [.int .u32 0, .int .u32 0, .int .i64 0, .bool false, .int .u32 0, .nils, .nils, .int .i64 0, .int .i64 0, .bool false, .bool false, .bool false, .int .u32 0, .nils]), (3, .box [.int .u32 0, .int .u32 0, .int .i64 0, .bool false, .int .u32 0, .nils, .nils, .int .i64 0, .int .i64 0, .bool false, .bool false, .bool false, .int .u32 0, .nils])]) (next' := 4) rfl rfl rfl rfl rfl rfl rfl ?_
 refine GX.done ?_
 refine WK.seq ?_
 refine WK.drawn mixed ?_
 refine RD.q (.agg (TSession.c a0)) ?_
 refine RD.q (.ptr 1 7) ?_
 refine RD.q (.agg [.int .i64 b1.Last.MTU, .int .i64 b1.Last.Options, .bool b1.Last.Init, .bool b1.Last.More, .bool b1.Last.Master, .int .u32 b1.Last.Seq, .ro 8 (b1.Last.Heads.map THeader.c)]) ?_
 refine RD.step (v' := .own 4 7 0 (([b1.Last] : List TDesc)).length) (heap' := [(0, .box (TSession.c a0)), (1, .box (TSession.c b1)), (2, .box [.int .u32 0, .int .u32 0, .int .i64 0, .bool false, .int .u32 0, .nils, .nils, .int .i64 0, .int .i64 0, .bool false, .bool false, .bool false, .int .u32 0, .nils]), (3, .box [.int .u32 0, .int .u32 0, .int .i64 0, .bool false, .int .u32 0, .nils, .nils, .int .i64 0, .int .i64 0, .bool false, .bool false, .bool false, .int .u32 0, .nils]), (4, .row 7 29 (([b1.Last] : List TDesc).map TDesc.c))]) (next' := 5) rfl rfl rfl rfl rfl rfl rfl ?_
 refine RD.q (.agg [.int .u32 a0.Own, .int .u32 a0.Peer, .int .i64 a0.Phase, .bool a0.Leads, .int .u32 a0.Seq, .ro 8 (a0.Left.map THeader.c), .ro 8 (a0.Got.map THeader.c), .int .i64 a0.Last.MTU, .int .i64 a0.Last.Options, .bool a0.Last.Init, .bool a0.Last.More, .bool a0.Last.Master, .int .u32 a0.Last.Seq, .ro 8 (a0.Last.Heads.map THeader.c), .own 4 7 0 (([b1.Last] : List TDesc)).length]) ?_
 refine RD.step (v' := .ptr 5 0) (heap' := [(0, .box (TSession.c a0)), (1, .box (TSession.c b1)), (2, .box [.int .u32 0, .int .u32 0, .int .i64 0, .bool false, .int .u32 0, .nils, .nils, .int .i64 0, .int .i64 0, .bool false, .bool false, .bool false, .int .u32 0, .nils]), (3, .box [.int .u32 0, .int .u32 0, .int .i64 0, .bool false, .int .u32 0, .nils, .nils, .int .i64 0, .int .i64 0, .bool false, .bool false, .bool false, .int .u32 0, .nils]), (4, .row 7 29 (([b1.Last] : List TDesc).map TDesc.c)), (5, .box [.int .u32 a0.Own, .int .u32 a0.Peer, .int .i64 a0.Phase, .bool a0.Leads, .int .u32 a0.Seq, .ro 8 (a0.Left.map THeader.c), .ro 8 (a0.Got.map THeader.c), .int .i64 a0.Last.MTU, .int .i64 a0.Last.Options, .bool a0.Last.Init, .bool a0.Last.More, .bool a0.Last.Master, .int .u32 a0.Last.Seq, .ro 8 (a0.Last.Heads.map THeader.c), .own 4 7 0 (([b1.Last] : List TDesc)).length])]) (next' := 6) rfl rfl rfl rfl rfl rfl rfl ?_
 refine RD.q (.agg (TSession.c b1)) ?_
 refine RD.q (.ptr 0 7) ?_
 refine RD.q (.agg [.int .i64 a0.Last.MTU, .int .i64 a0.Last.Options, .bool a0.Last.Init, .bool a0.Last.More, .bool a0.Last.Master, .int .u32 a0.Last.Seq, .ro 8 (a0.Last.Heads.map THeader.c)]) ?_
 refine RD.step (v' := .own 6 7 0 (([a0.Last] : List TDesc)).length) (heap' := [(0, .box (TSession.c a0)), (1, .box (TSession.c b1)), (2, .box [.int .u32 0, .int .u32 0, .int .i64 0, .bool false, .int .u32 0, .nils, .nils, .int .i64 0, .int .i64 0, .bool false, .bool false, .bool false, .int .u32 0, .nils]), (3, .box [.int .u32 0, .int .u32 0, .int .i64 0, .bool false, .int .u32 0, .nils, .nils, .int .i64 0, .int .i64 0, .bool false, .bool false, .bool false, .int .u32 0, .nils]), (4, .row 7 29 (([b1.Last] : List TDesc).map TDesc.c)), (5, .box [.int .u32 a0.Own, .int .u32 a0.Peer, .int .i64 a0.Phase, .bool a0.Leads, .int .u32 a0.Seq, .ro 8 (a0.Left.map THeader.c), .ro 8 (a0.Got.map THeader.c), .int .i64 a0.Last.MTU, .int .i64 a0.Last.Options, .bool a0.Last.Init, .bool a0.Last.More, .bool a0.Last.Master, .int .u32 a0.Last.Seq, .ro 8 (a0.Last.Heads.map THeader.c), .own 4 7 0 (([b1.Last] : List TDesc)).length]), (6, .row 7 29 (([a0.Last] : List TDesc).map TDesc.c))]) (next' := 7) rfl rfl rfl rfl rfl rfl rfl ?_
 refine RD.q (.agg [.int .u32 b1.Own, .int .u32 b1.Peer, .int .i64 b1.Phase, .bool b1.Leads, .int .u32 b1.Seq, .ro 8 (b1.Left.map THeader.c), .ro 8 (b1.Got.map THeader.c), .int .i64 b1.Last.MTU, .int .i64 b1.Last.Options, .bool b1.Last.Init, .bool b1.Last.More, .bool b1.Last.Master, .int .u32 b1.Last.Seq, .ro 8 (b1.Last.Heads.map THeader.c), .own 6 7 0 (([a0.Last] : List TDesc)).length]) ?_
 refine RD.step (v' := .ptr 7 0) (heap' := [(0, .box (TSession.c a0)), (1, .box (TSession.c b1)), (2, .box [.int .u32 0, .int .u32 0, .int .i64 0, .bool false, .int .u32 0, .nils, .nils, .int .i64 0, .int .i64 0, .bool false, .bool false, .bool false, .int .u32 0, .nils]), (3, .box [.int .u32 0, .int .u32 0, .int .i64 0, .bool false, .int .u32 0, .nils, .nils, .int .i64 0, .int .i64 0, .bool false, .bool false, .bool false, .int .u32 0, .nils]), (4, .row 7 29 (([b1.Last] : List TDesc).map TDesc.c)), (5, .box [.int .u32 a0.Own, .int .u32 a0.Peer, .int .i64 a0.Phase, .bool a0.Leads, .int .u32 a0.Seq, .ro 8 (a0.Left.map THeader.c), .ro 8 (a0.Got.map THeader.c), .int .i64 a0.Last.MTU, .int .i64 a0.Last.Options, .bool a0.Last.Init, .bool a0.Last.More, .bool a0.Last.Master, .int .u32 a0.Last.Seq, .ro 8 (a0.Last.Heads.map THeader.c), .own 4 7 0 (([b1.Last] : List TDesc)).length]), (6, .row 7 29 (([a0.Last] : List TDesc).map TDesc.c)), (7, .box [.int .u32 b1.Own, .int .u32 b1.Peer, .int .i64 b1.Phase, .bool b1.Leads, .int .u32 b1.Seq, .ro 8 (b1.Left.map THeader.c), .ro 8 (b1.Got.map THeader.c), .int .i64 b1.Last.MTU, .int .i64 b1.Last.Options, .bool b1.Last.Init, .bool b1.Last.More, .bool b1.Last.Master, .int .u32 b1.Last.Seq, .ro 8 (b1.Last.Heads.map THeader.c), .own 6 7 0 (([a0.Last] : List TDesc)).length])]) (next' := 8) rfl rfl rfl rfl rfl rfl rfl ?_
 iterate 2 refine RD.m rfl ?_
 refine RD.done rfl ?_
 refine WK.seq ?_
 refine WK.sr mixed ?_
 refine GX.m rfl ?_
 refine GX.pure (v' := .int .i64 (fates2.length : Int)) rfl rfl rfl rfl (len_map _ _) ?_
 refine GX.m rfl ?_
 refine GX.done ?_
 refine WK.len (t := 2) rfl (by simp) (fun hlen_15 => ?_)
 rw [List.length_map] at hlen_15
 generalize hZ_15 : F19_exch_Run_l1 (⟨a0, ([b1.Last] : List TDesc)⟩ : TEnd) (⟨b1, ([a0.Last] : List TDesc)⟩ : TEnd) fates2 = Z_15 at hR
 refine WK.forK (fun k s => ∃ (i28 : Nat) (x8 : TEnd) (y9 : TEnd), i28 ≤ fates2.length ∧ k = fates2.length - i28 ∧ F19_exch_Run_l1 x8 y9 (fates2.drop i28) = Z_15 ∧ s = ⟨[(6, .ptr 0 0), (7, .ptr 1 0), (8, .ptr 2 0), (9, .ptr 4 0), (26, .ro 1 (fates2.map c_i64)), (27, .int .i64 (fates2.length : Int)), (28, .int .i64 (i28 : Int))], [(0, .box [.int .u32 0, .int .u32 0, .int .i64 0, .bool false, .int .u32 0, .nils, .nils, .int .i64 0, .int .i64 0, .bool false, .bool false, .bool false, .int .u32 0, .nils]), (1, .box [.int .u32 0, .int .u32 0, .int .i64 0, .bool false, .int .u32 0, .nils, .nils, .int .i64 0, .int .i64 0, .bool false, .bool false, .bool false, .int .u32 0, .nils]), (2, .box [.int .u32 x8.s.Own, .int .u32 x8.s.Peer, .int .i64 x8.s.Phase, .bool x8.s.Leads, .int .u32 x8.s.Seq, .ro 8 (x8.s.Left.map THeader.c), .ro 8 (x8.s.Got.map THeader.c), .int .i64 x8.s.Last.MTU, .int .i64 x8.s.Last.Options, .bool x8.s.Last.Init, .bool x8.s.Last.More, .bool x8.s.Last.Master, .int .u32 x8.s.Last.Seq, .ro 8 (x8.s.Last.Heads.map THeader.c), .own 3 7 0 x8.waits.length]), (3, .row 7 29 (x8.waits.map TDesc.c)), (4, .box [.int .u32 y9.s.Own, .int .u32 y9.s.Peer, .int .i64 y9.s.Phase, .bool y9.s.Leads, .int .u32 y9.s.Seq, .ro 8 (y9.s.Left.map THeader.c), .ro 8 (y9.s.Got.map THeader.c), .int .i64 y9.s.Last.MTU, .int .i64 y9.s.Last.Options, .bool y9.s.Last.Init, .bool y9.s.Last.More, .bool y9.s.Last.Master, .int .u32 y9.s.Last.Seq, .ro 8 (y9.s.Last.Heads.map THeader.c), .own 5 7 0 y9.waits.length]), (5, .row 7 29 (y9.waits.map TDesc.c))], 6⟩) fates2.length ⟨⟨[(6, .ptr 0 0), (7, .ptr 1 0), (8, .ptr 2 0), (9, .ptr 4 0), (26, .ro 1 (fates2.map c_i64)), (27, .int .i64 (fates2.length : Int)), (28, .int .i64 (0 : Int))], [(0, .box [.int .u32 0, .int .u32 0, .int .i64 0, .bool false, .int .u32 0, .nils, .nils, .int .i64 0, .int .i64 0, .bool false, .bool false, .bool false, .int .u32 0, .nils]), (1, .box [.int .u32 0, .int .u32 0, .int .i64 0, .bool false, .int .u32 0, .nils, .nils, .int .i64 0, .int .i64 0, .bool false, .bool false, .bool false, .int .u32 0, .nils]), (2, .box [.int .u32 (⟨a0, ([b1.Last] : List TDesc)⟩ : TEnd).s.Own, .int .u32 (⟨a0, ([b1.Last] : List TDesc)⟩ : TEnd).s.Peer, .int .i64 (⟨a0, ([b1.Last] : List TDesc)⟩ : TEnd).s.Phase, .bool (⟨a0, ([b1.Last] : List TDesc)⟩ : TEnd).s.Leads, .int .u32 (⟨a0, ([b1.Last] : List TDesc)⟩ : TEnd).s.Seq, .ro 8 ((⟨a0, ([b1.Last] : List TDesc)⟩ : TEnd).s.Left.map THeader.c), .ro 8 ((⟨a0, ([b1.Last] : List TDesc)⟩ : TEnd).s.Got.map THeader.c), .int .i64 (⟨a0, ([b1.Last] : List TDesc)⟩ : TEnd).s.Last.MTU, .int .i64 (⟨a0, ([b1.Last] : List TDesc)⟩ : TEnd).s.Last.Options, .bool (⟨a0, ([b1.Last] : List TDesc)⟩ : TEnd).s.Last.Init, .bool (⟨a0, ([b1.Last] : List TDesc)⟩ : TEnd).s.Last.More, .bool (⟨a0, ([b1.Last] : List TDesc)⟩ : TEnd).s.Last.Master, .int .u32 (⟨a0, ([b1.Last] : List TDesc)⟩ : TEnd).s.Last.Seq, .ro 8 ((⟨a0, ([b1.Last] : List TDesc)⟩ : TEnd).s.Last.Heads.map THeader.c), .own 3 7 0 (⟨a0, ([b1.Last] : List TDesc)⟩ : TEnd).waits.length]), (3, .row 7 29 ((⟨a0, ([b1.Last] : List TDesc)⟩ : TEnd).waits.map TDesc.c)), (4, .box [.int .u32 (⟨b1, ([a0.Last] : List TDesc)⟩ : TEnd).s.Own, .int .u32 (⟨b1, ([a0.Last] : List TDesc)⟩ : TEnd).s.Peer, .int .i64 (⟨b1, ([a0.Last] : List TDesc)⟩ : TEnd).s.Phase, .bool (⟨b1, ([a0.Last] : List TDesc)⟩ : TEnd).s.Leads, .int .u32 (⟨b1, ([a0.Last] : List TDesc)⟩ : TEnd).s.Seq, .ro 8 ((⟨b1, ([a0.Last] : List TDesc)⟩ : TEnd).s.Left.map THeader.c), .ro 8 ((⟨b1, ([a0.Last] : List TDesc)⟩ : TEnd).s.Got.map THeader.c), .int .i64 (⟨b1, ([a0.Last] : List TDesc)⟩ : TEnd).s.Last.MTU, .int .i64 (⟨b1, ([a0.Last] : List TDesc)⟩ : TEnd).s.Last.Options, .bool (⟨b1, ([a0.Last] : List TDesc)⟩ : TEnd).s.Last.Init, .bool (⟨b1, ([a0.Last] : List TDesc)⟩ : TEnd).s.Last.More, .bool (⟨b1, ([a0.Last] : List TDesc)⟩ : TEnd).s.Last.Master, .int .u32 (⟨b1, ([a0.Last] : List TDesc)⟩ : TEnd).s.Last.Seq, .ro 8 ((⟨b1, ([a0.Last] : List TDesc)⟩ : TEnd).s.Last.Heads.map THeader.c), .own 5 7 0 (⟨b1, ([a0.Last] : List TDesc)⟩ : TEnd).waits.length]), (5, .row 7 29 ((⟨b1, ([a0.Last] : List TDesc)⟩ : TEnd).waits.map TDesc.c))], 6⟩, Conv.keep [2, 3, 5, 4, 7, 6] [] [6, 7, 8, 9, 26, 27, 28] rfl rfl (viewE_cons rfl rfl (viewE_cons rfl rfl (viewE_cons rfl rfl (viewE_cons rfl rfl (viewE_cons rfl rfl (viewE_cons rfl rfl (viewE_cons rfl rfl viewE_nil))))))) rfl rfl, 0, (⟨a0, ([b1.Last] : List TDesc)⟩ : TEnd), (⟨b1, ([a0.Last] : List TDesc)⟩ : TEnd), (by omega), rfl, hZ_15, rfl⟩ ?_
 rintro _ _ ⟨i28, x8, y9, hi_15, rfl, hL_15, rfl⟩ again_15 out_15 Q_15 hagain_15 hout_15 hQ_15
 refine WK.sr mixed ?_
 refine GX.q (.bool (decide ((i28 : Int) < (fates2.length : Int)))) ?_
 refine GX.done ?_
 refine WK.seq ?_
 rcases bool_two (decide ((i28 : Int) < (fates2.length : Int))) with hb16 | hb16
 ·rw [hb16]
  rw [drop_end hb16, F19_exch_Run_l1] at hL_15
  refine WK.condF rfl ?_
  refine WK.exit ?_
  refine QF.exit (hout_15 _ ?_)
  subst hL_15
  try dsimp only [cond_true, cond_false] at hR
  refine WK.seq ?_
  refine WK.drawn mixed ?_
  refine RD.m rfl ?_
  iterate 2 refine RD.q (.ptr 2 0) ?_
  refine RD.q (.agg [.int .u32 x8.s.Own, .int .u32 x8.s.Peer, .int .i64 x8.s.Phase, .bool x8.s.Leads, .int .u32 x8.s.Seq, .ro 8 (x8.s.Left.map THeader.c), .ro 8 (x8.s.Got.map THeader.c), .int .i64 x8.s.Last.MTU, .int .i64 x8.s.Last.Options, .bool x8.s.Last.Init, .bool x8.s.Last.More, .bool x8.s.Last.Master, .int .u32 x8.s.Last.Seq, .ro 8 (x8.s.Last.Heads.map THeader.c)]) ?_
  refine RD.m rfl ?_
  iterate 2 refine RD.q (.ptr 4 0) ?_
  refine RD.q (.agg [.int .u32 y9.s.Own, .int .u32 y9.s.Peer, .int .i64 y9.s.Phase, .bool y9.s.Leads, .int .u32 y9.s.Seq, .ro 8 (y9.s.Left.map THeader.c), .ro 8 (y9.s.Got.map THeader.c), .int .i64 y9.s.Last.MTU, .int .i64 y9.s.Last.Options, .bool y9.s.Last.Init, .bool y9.s.Last.More, .bool y9.s.Last.Master, .int .u32 y9.s.Last.Seq, .ro 8 (y9.s.Last.Heads.map THeader.c)]) ?_
  refine RD.step0 (heap' := [(0, .box (TSession.c x8.s)), (1, .box [.int .u32 0, .int .u32 0, .int .i64 0, .bool false, .int .u32 0, .nils, .nils, .int .i64 0, .int .i64 0, .bool false, .bool false, .bool false, .int .u32 0, .nils]), (2, .box [.int .u32 x8.s.Own, .int .u32 x8.s.Peer, .int .i64 x8.s.Phase, .bool x8.s.Leads, .int .u32 x8.s.Seq, .ro 8 (x8.s.Left.map THeader.c), .ro 8 (x8.s.Got.map THeader.c), .int .i64 x8.s.Last.MTU, .int .i64 x8.s.Last.Options, .bool x8.s.Last.Init, .bool x8.s.Last.More, .bool x8.s.Last.Master, .int .u32 x8.s.Last.Seq, .ro 8 (x8.s.Last.Heads.map THeader.c), .own 3 7 0 x8.waits.length]), (3, .row 7 29 (x8.waits.map TDesc.c)), (4, .box [.int .u32 y9.s.Own, .int .u32 y9.s.Peer, .int .i64 y9.s.Phase, .bool y9.s.Leads, .int .u32 y9.s.Seq, .ro 8 (y9.s.Left.map THeader.c), .ro 8 (y9.s.Got.map THeader.c), .int .i64 y9.s.Last.MTU, .int .i64 y9.s.Last.Options, .bool y9.s.Last.Init, .bool y9.s.Last.More, .bool y9.s.Last.Master, .int .u32 y9.s.Last.Seq, .ro 8 (y9.s.Last.Heads.map THeader.c), .own 5 7 0 y9.waits.length]), (5, .row 7 29 (y9.waits.map TDesc.c))]) (next' := 6) rfl rfl rfl rfl rfl ?_
  refine RD.step0 (heap' := [(0, .box (TSession.c x8.s)), (1, .box (TSession.c y9.s)), (2, .box [.int .u32 x8.s.Own, .int .u32 x8.s.Peer, .int .i64 x8.s.Phase, .bool x8.s.Leads, .int .u32 x8.s.Seq, .ro 8 (x8.s.Left.map THeader.c), .ro 8 (x8.s.Got.map THeader.c), .int .i64 x8.s.Last.MTU, .int .i64 x8.s.Last.Options, .bool x8.s.Last.Init, .bool x8.s.Last.More, .bool x8.s.Last.Master, .int .u32 x8.s.Last.Seq, .ro 8 (x8.s.Last.Heads.map THeader.c), .own 3 7 0 x8.waits.length]), (3, .row 7 29 (x8.waits.map TDesc.c)), (4, .box [.int .u32 y9.s.Own, .int .u32 y9.s.Peer, .int .i64 y9.s.Phase, .bool y9.s.Leads, .int .u32 y9.s.Seq, .ro 8 (y9.s.Left.map THeader.c), .ro 8 (y9.s.Got.map THeader.c), .int .i64 y9.s.Last.MTU, .int .i64 y9.s.Last.Options, .bool y9.s.Last.Init, .bool y9.s.Last.More, .bool y9.s.Last.Master, .int .u32 y9.s.Last.Seq, .ro 8 (y9.s.Last.Heads.map THeader.c), .own 5 7 0 y9.waits.length]), (5, .row 7 29 (y9.waits.map TDesc.c))]) (next' := 6) rfl rfl rfl rfl rfl ?_
  refine RD.done rfl ?_
  refine WK.ret ?_
  obtain rfl := Option.some.inj hR
  exact RetQ.fr [] (.inr rfl) rfl rfl rfl rfl
 ·rw [hb16]
  obtain ⟨x28, hx15, hd15, hlt15⟩ := drop_more hb16
  rw [hd15, F19_exch_Run_l1] at hL_15
  refine WK.condT rfl ?_
  refine WK.skip ?_
  refine WK.seq ?_
  refine WK.blockK (fun _ hK17 => ?_)
  refine WK.sr mixed ?_
  refine GX.idxT (c := c_i64) (x := x28) rfl rfl rfl (Int.natCast_nonneg _) hx15 ?_
  refine GX.q (.int .i64 x28) ?_
  refine GX.m rfl ?_
  refine GX.done ?_
  refine WK.sr mixed ?_
  iterate 4 refine GX.m rfl ?_
  refine GX.done ?_
  refine WK.seq ?_
  refine WK.sr mixed ?_
  refine GX.m rfl ?_
  refine GX.q (.int .i64 (bit_and .i64 x28 1)) ?_
  refine GX.q (.bool (!decide (bit_and .i64 x28 1 = 0))) ?_
  refine GX.done ?_
  rcases bool_two (decide (bit_and .i64 x28 1 = 0)) with hb18 | hb18
  ·rw [hb18]; try simp only [hb18, bb] at hL_15
   refine WK.condT rfl ?_
   refine WK.regx mixed ?_
   iterate 4 refine GX.m rfl ?_
   refine GX.done ?_
   refine WK.sr mixed ?_
   refine GX.m rfl ?_
   refine GX.done ?_
   refine WK.blockK (fun _ hK19 => ?_)
   refine WK.seq ?_
   refine WK.sr mixed ?_
   refine GX.q (.bool (decide (x28 = 0))) ?_
   refine GX.m rfl ?_
   refine GX.done ?_
   rcases bool_two (decide (x28 = 0)) with hb20 | hb20
   ·rw [hb20]; try simp only [hb20, bb] at hL_15
    refine WK.condF rfl ?_
    refine WK.regx mixed ?_
    refine GX.q (.bool (decide (x28 = 1))) ?_
    refine GX.m rfl ?_
    refine GX.done ?_
    rcases bool_two (decide (x28 = 1)) with hb21 | hb21
    ·rw [hb21]; try simp only [hb21, bb] at hL_15
     refine WK.condF rfl ?_
     refine WK.seq ?_
     refine WK.sr mixed ?_
     refine GX.q (.bool (decide (x28 = 2))) ?_
     refine GX.m rfl ?_
     refine GX.done ?_
     rcases bool_two (decide (x28 = 2)) with hb22 | hb22
     ·rw [hb22]; try simp only [hb22, bb] at hL_15
      refine WK.condF rfl ?_
      refine WK.regx mixed ?_
      refine GX.q (.bool (decide (x28 = 3))) ?_
      refine GX.m rfl ?_
      refine GX.done ?_
      rcases bool_two (decide (x28 = 3)) with hb23 | hb23
      ·rw [hb23]; try simp only [hb23, bb] at hL_15
       refine WK.condF rfl ?_
       refine WK.seq ?_
       refine WK.sr mixed ?_
       refine GX.q (.bool (decide (x28 = 4))) ?_
       refine GX.m rfl ?_
       refine GX.done ?_
       rcases bool_two (decide (x28 = 4)) with hb24 | hb24
       ·rw [hb24]; try simp only [hb24, bb] at hL_15
        refine WK.condF rfl ?_
        refine WK.regx mixed ?_
        refine GX.q (.bool (decide (x28 = 5))) ?_
        refine GX.m rfl ?_
        refine GX.done ?_
        rcases bool_two (decide (x28 = 5)) with hb25 | hb25
        ·rw [hb25]; try simp only [hb25, bb] at hL_15
         refine WK.condF rfl ?_
         refine WK.seq ?_
         refine WK.sr mixed ?_
         refine GX.q (.bool (decide (x28 = 6))) ?_
         refine GX.m rfl ?_
         refine GX.done ?_
         rcases bool_two (decide (x28 = 6)) with hb26 | hb26
         ·rw [hb26]; try simp only [hb26, bb] at hL_15
          refine WK.condF rfl ?_
          refine WK.regx mixed ?_
          refine GX.q (.bool (decide (x28 = 7))) ?_
          refine GX.m rfl ?_
          refine GX.done ?_
          rcases bool_two (decide (x28 = 7)) with hb27 | hb27
          ·rw [hb27]; try simp only [hb27, bb] at hL_15
           refine WK.condF rfl ?_
           refine WK.skip ?_
           refine WK.nil (QF.normal (hK19 _ ?_))
           refine WK.nil (QF.normal (hK17 _ ?_))
           refine WK.regx mixed ?_
           refine GX.pure (v' := .int .i64 ((i28 + 1 : Nat) : Int)) rfl rfl rfl rfl (congrArg (PVal.int .i64) (wrap_up hlt15 hlen_15)) ?_
           refine GX.m rfl ?_
           refine GX.done ?_
           refine WK.nil (QF.normal ?_)
           exact hagain_15 _ (fates2.length - (i28 + 1)) ⟨[(6, .ptr 0 0), (7, .ptr 1 0), (8, .ptr 2 0), (9, .ptr 4 0), (26, .ro 1 (fates2.map c_i64)), (27, .int .i64 (fates2.length : Int)), (28, .int .i64 ((i28 + 1) : Int))], [(0, .box [.int .u32 0, .int .u32 0, .int .i64 0, .bool false, .int .u32 0, .nils, .nils, .int .i64 0, .int .i64 0, .bool false, .bool false, .bool false, .int .u32 0, .nils]), (1, .box [.int .u32 0, .int .u32 0, .int .i64 0, .bool false, .int .u32 0, .nils, .nils, .int .i64 0, .int .i64 0, .bool false, .bool false, .bool false, .int .u32 0, .nils]), (2, .box [.int .u32 x8.s.Own, .int .u32 x8.s.Peer, .int .i64 x8.s.Phase, .bool x8.s.Leads, .int .u32 x8.s.Seq, .ro 8 (x8.s.Left.map THeader.c), .ro 8 (x8.s.Got.map THeader.c), .int .i64 x8.s.Last.MTU, .int .i64 x8.s.Last.Options, .bool x8.s.Last.Init, .bool x8.s.Last.More, .bool x8.s.Last.Master, .int .u32 x8.s.Last.Seq, .ro 8 (x8.s.Last.Heads.map THeader.c), .own 3 7 0 x8.waits.length]), (3, .row 7 29 (x8.waits.map TDesc.c)), (4, .box [.int .u32 y9.s.Own, .int .u32 y9.s.Peer, .int .i64 y9.s.Phase, .bool y9.s.Leads, .int .u32 y9.s.Seq, .ro 8 (y9.s.Left.map THeader.c), .ro 8 (y9.s.Got.map THeader.c), .int .i64 y9.s.Last.MTU, .int .i64 y9.s.Last.Options, .bool y9.s.Last.Init, .bool y9.s.Last.More, .bool y9.s.Last.Master, .int .u32 y9.s.Last.Seq, .ro 8 (y9.s.Last.Heads.map THeader.c), .own 5 7 0 y9.waits.length]), (5, .row 7 29 (y9.waits.map TDesc.c))], 6⟩ (by omega) (Conv.keep [0, 1, 2, 3, 4, 5] [] [6, 7, 8, 9, 26, 27, 28] rfl rfl (viewE_cons rfl rfl (viewE_cons rfl rfl (viewE_cons rfl rfl (viewE_cons rfl rfl (viewE_cons rfl rfl (viewE_cons rfl rfl (viewE_cons rfl rfl viewE_nil))))))) rfl rfl) ⟨i28 + 1, x8, y9, (by omega), rfl, hL_15, rfl⟩
          ·rw [hb27]; try simp only [hb27, bb] at hL_15
           refine WK.condT rfl ?_
           refine WK.regx mixed ?_
           iterate 2 refine GX.m rfl ?_
           generalize hc62 : F32_exch_end_hear y9 x8 true = c62 at hL_15
           rcases c62 with _ | c62
           ·try dsimp only at hL_15
            subst hL_15
            try dsimp only at hR
            cases hR
           try dsimp only at hL_15
           obtain ⟨c62a, c62b⟩ := c62; try dsimp only at hL_15
           refine GX.callx (r' := .tup []) (heap' := [(0, .box [.int .u32 0, .int .u32 0, .int .i64 0, .bool false, .int .u32 0, .nils, .nils, .int .i64 0, .int .i64 0, .bool false, .bool false, .bool false, .int .u32 0, .nils]), (1, .box [.int .u32 0, .int .u32 0, .int .i64 0, .bool false, .int .u32 0, .nils, .nils, .int .i64 0, .int .i64 0, .bool false, .bool false, .bool false, .int .u32 0, .nils]), (2, .box [.int .u32 c62b.s.Own, .int .u32 c62b.s.Peer, .int .i64 c62b.s.Phase, .bool c62b.s.Leads, .int .u32 c62b.s.Seq, .ro 8 (c62b.s.Left.map THeader.c), .ro 8 (c62b.s.Got.map THeader.c), .int .i64 c62b.s.Last.MTU, .int .i64 c62b.s.Last.Options, .bool c62b.s.Last.Init, .bool c62b.s.Last.More, .bool c62b.s.Last.Master, .int .u32 c62b.s.Last.Seq, .ro 8 (c62b.s.Last.Heads.map THeader.c), .own 7 7 0 c62b.waits.length]), (4, .box [.int .u32 c62a.s.Own, .int .u32 c62a.s.Peer, .int .i64 c62a.s.Phase, .bool c62a.s.Leads, .int .u32 c62a.s.Seq, .ro 8 (c62a.s.Left.map THeader.c), .ro 8 (c62a.s.Got.map THeader.c), .int .i64 c62a.s.Last.MTU, .int .i64 c62a.s.Last.Options, .bool c62a.s.Last.Init, .bool c62a.s.Last.More, .bool c62a.s.Last.Master, .int .u32 c62a.s.Last.Seq, .ro 8 (c62a.s.Last.Heads.map THeader.c), .own 6 7 0 c62a.waits.length]), (7, .row 7 29 (c62b.waits.map TDesc.c)), (6, .row 7 29 (c62a.waits.map TDesc.c))]) (next' := 8) [4, 2, 5, 3] [] rfl rfl rfl rfl rfl rfl (f32_ok y9 x8 true _ hc62) (.inl rfl) rfl rfl rfl ?_
           refine GX.done ?_
           refine WK.nil (QF.normal (hK19 _ ?_))
           refine WK.nil (QF.normal (hK17 _ ?_))
           refine WK.regx mixed ?_
           refine GX.pure (v' := .int .i64 ((i28 + 1 : Nat) : Int)) rfl rfl rfl rfl (congrArg (PVal.int .i64) (wrap_up hlt15 hlen_15)) ?_
           refine GX.m rfl ?_
           refine GX.done ?_
           refine WK.nil (QF.normal ?_)
           exact hagain_15 _ (fates2.length - (i28 + 1)) ⟨[(6, .ptr 0 0), (7, .ptr 1 0), (8, .ptr 2 0), (9, .ptr 4 0), (26, .ro 1 (fates2.map c_i64)), (27, .int .i64 (fates2.length : Int)), (28, .int .i64 ((i28 + 1) : Int))], [(0, .box [.int .u32 0, .int .u32 0, .int .i64 0, .bool false, .int .u32 0, .nils, .nils, .int .i64 0, .int .i64 0, .bool false, .bool false, .bool false, .int .u32 0, .nils]), (1, .box [.int .u32 0, .int .u32 0, .int .i64 0, .bool false, .int .u32 0, .nils, .nils, .int .i64 0, .int .i64 0, .bool false, .bool false, .bool false, .int .u32 0, .nils]), (2, .box [.int .u32 c62b.s.Own, .int .u32 c62b.s.Peer, .int .i64 c62b.s.Phase, .bool c62b.s.Leads, .int .u32 c62b.s.Seq, .ro 8 (c62b.s.Left.map THeader.c), .ro 8 (c62b.s.Got.map THeader.c), .int .i64 c62b.s.Last.MTU, .int .i64 c62b.s.Last.Options, .bool c62b.s.Last.Init, .bool c62b.s.Last.More, .bool c62b.s.Last.Master, .int .u32 c62b.s.Last.Seq, .ro 8 (c62b.s.Last.Heads.map THeader.c), .own 3 7 0 c62b.waits.length]), (3, .row 7 29 (c62b.waits.map TDesc.c)), (4, .box [.int .u32 c62a.s.Own, .int .u32 c62a.s.Peer, .int .i64 c62a.s.Phase, .bool c62a.s.Leads, .int .u32 c62a.s.Seq, .ro 8 (c62a.s.Left.map THeader.c), .ro 8 (c62a.s.Got.map THeader.c), .int .i64 c62a.s.Last.MTU, .int .i64 c62a.s.Last.Options, .bool c62a.s.Last.Init, .bool c62a.s.Last.More, .bool c62a.s.Last.Master, .int .u32 c62a.s.Last.Seq, .ro 8 (c62a.s.Last.Heads.map THeader.c), .own 5 7 0 c62a.waits.length]), (5, .row 7 29 (c62a.waits.map TDesc.c))], 6⟩ (by omega) (Conv.keep [0, 1, 2, 7, 4, 6] [] [6, 7, 8, 9, 26, 27, 28] rfl rfl (viewE_cons rfl rfl (viewE_cons rfl rfl (viewE_cons rfl rfl (viewE_cons rfl rfl (viewE_cons rfl rfl (viewE_cons rfl rfl (viewE_cons rfl rfl viewE_nil))))))) rfl rfl) ⟨i28 + 1, c62b, c62a, (by omega), rfl, hL_15, rfl⟩
         ·rw [hb26]; try simp only [hb26, bb] at hL_15
          refine WK.condT rfl ?_
          refine WK.skip ?_
          refine WK.condT rfl ?_
          refine WK.regx mixed ?_
          iterate 2 refine GX.m rfl ?_
          generalize hc62 : F32_exch_end_hear y9 x8 true = c62 at hL_15
          rcases c62 with _ | c62
          ·try dsimp only at hL_15
           subst hL_15
           try dsimp only at hR
           cases hR
          try dsimp only at hL_15
          obtain ⟨c62a, c62b⟩ := c62; try dsimp only at hL_15
          refine GX.callx (r' := .tup []) (heap' := [(0, .box [.int .u32 0, .int .u32 0, .int .i64 0, .bool false, .int .u32 0, .nils, .nils, .int .i64 0, .int .i64 0, .bool false, .bool false, .bool false, .int .u32 0, .nils]), (1, .box [.int .u32 0, .int .u32 0, .int .i64 0, .bool false, .int .u32 0, .nils, .nils, .int .i64 0, .int .i64 0, .bool false, .bool false, .bool false, .int .u32 0, .nils]), (2, .box [.int .u32 c62b.s.Own, .int .u32 c62b.s.Peer, .int .i64 c62b.s.Phase, .bool c62b.s.Leads, .int .u32 c62b.s.Seq, .ro 8 (c62b.s.Left.map THeader.c), .ro 8 (c62b.s.Got.map THeader.c), .int .i64 c62b.s.Last.MTU, .int .i64 c62b.s.Last.Options, .bool c62b.s.Last.Init, .bool c62b.s.Last.More, .bool c62b.s.Last.Master, .int .u32 c62b.s.Last.Seq, .ro 8 (c62b.s.Last.Heads.map THeader.c), .own 7 7 0 c62b.waits.length]), (4, .box [.int .u32 c62a.s.Own, .int .u32 c62a.s.Peer, .int .i64 c62a.s.Phase, .bool c62a.s.Leads, .int .u32 c62a.s.Seq, .ro 8 (c62a.s.Left.map THeader.c), .ro 8 (c62a.s.Got.map THeader.c), .int .i64 c62a.s.Last.MTU, .int .i64 c62a.s.Last.Options, .bool c62a.s.Last.Init, .bool c62a.s.Last.More, .bool c62a.s.Last.Master, .int .u32 c62a.s.Last.Seq, .ro 8 (c62a.s.Last.Heads.map THeader.c), .own 6 7 0 c62a.waits.length]), (7, .row 7 29 (c62b.waits.map TDesc.c)), (6, .row 7 29 (c62a.waits.map TDesc.c))]) (next' := 8) [4, 2, 5, 3] [] rfl rfl rfl rfl rfl rfl (f32_ok y9 x8 true _ hc62) (.inl rfl) rfl rfl rfl ?_
          refine GX.done ?_
          refine WK.nil (QF.normal (hK19 _ ?_))
          refine WK.nil (QF.normal (hK17 _ ?_))
          refine WK.regx mixed ?_
          refine GX.pure (v' := .int .i64 ((i28 + 1 : Nat) : Int)) rfl rfl rfl rfl (congrArg (PVal.int .i64) (wrap_up hlt15 hlen_15)) ?_
          refine GX.m rfl ?_
          refine GX.done ?_
          refine WK.nil (QF.normal ?_)
          exact hagain_15 _ (fates2.length - (i28 + 1)) ⟨[(6, .ptr 0 0), (7, .ptr 1 0), (8, .ptr 2 0), (9, .ptr 4 0), (26, .ro 1 (fates2.map c_i64)), (27, .int .i64 (fates2.length : Int)), (28, .int .i64 ((i28 + 1) : Int))], [(0, .box [.int .u32 0, .int .u32 0, .int .i64 0, .bool false, .int .u32 0, .nils, .nils, .int .i64 0, .int .i64 0, .bool false, .bool false, .bool false, .int .u32 0, .nils]), (1, .box [.int .u32 0, .int .u32 0, .int .i64 0, .bool false, .int .u32 0, .nils, .nils, .int .i64 0, .int .i64 0, .bool false, .bool false, .bool false, .int .u32 0, .nils]), (2, .box [.int .u32 c62b.s.Own, .int .u32 c62b.s.Peer, .int .i64 c62b.s.Phase, .bool c62b.s.Leads, .int .u32 c62b.s.Seq, .ro 8 (c62b.s.Left.map THeader.c), .ro 8 (c62b.s.Got.map THeader.c), .int .i64 c62b.s.Last.MTU, .int .i64 c62b.s.Last.Options, .bool c62b.s.Last.Init, .bool c62b.s.Last.More, .bool c62b.s.Last.Master, .int .u32 c62b.s.Last.Seq, .ro 8 (c62b.s.Last.Heads.map THeader.c), .own 3 7 0 c62b.waits.length]), (3, .row 7 29 (c62b.waits.map TDesc.c)), (4, .box [.int .u32 c62a.s.Own, .int .u32 c62a.s.Peer, .int .i64 c62a.s.Phase, .bool c62a.s.Leads, .int .u32 c62a.s.Seq, .ro 8 (c62a.s.Left.map THeader.c), .ro 8 (c62a.s.Got.map THeader.c), .int .i64 c62a.s.Last.MTU, .int .i64 c62a.s.Last.Options, .bool c62a.s.Last.Init, .bool c62a.s.Last.More, .bool c62a.s.Last.Master, .int .u32 c62a.s.Last.Seq, .ro 8 (c62a.s.Last.Heads.map THeader.c), .own 5 7 0 c62a.waits.length]), (5, .row 7 29 (c62a.waits.map TDesc.c))], 6⟩ (by omega) (Conv.keep [0, 1, 2, 7, 4, 6] [] [6, 7, 8, 9, 26, 27, 28] rfl rfl (viewE_cons rfl rfl (viewE_cons rfl rfl (viewE_cons rfl rfl (viewE_cons rfl rfl (viewE_cons rfl rfl (viewE_cons rfl rfl (viewE_cons rfl rfl viewE_nil))))))) rfl rfl) ⟨i28 + 1, c62b, c62a, (by omega), rfl, hL_15, rfl⟩
        ·rw [hb25]; try simp only [hb25, bb] at hL_15
         refine WK.condT rfl ?_
         refine WK.regx mixed ?_
         iterate 2 refine GX.m rfl ?_
         generalize hc56 : F34_exch_end_remind y9 x8 = c56 at hL_15
         rcases c56 with _ | c56
         ·try dsimp only at hL_15
          subst hL_15
          try dsimp only at hR
          cases hR
         try dsimp only at hL_15
         obtain ⟨c56a, c56b⟩ := c56; try dsimp only at hL_15
         refine GX.callx (r' := .tup []) (heap' := [(0, .box [.int .u32 0, .int .u32 0, .int .i64 0, .bool false, .int .u32 0, .nils, .nils, .int .i64 0, .int .i64 0, .bool false, .bool false, .bool false, .int .u32 0, .nils]), (1, .box [.int .u32 0, .int .u32 0, .int .i64 0, .bool false, .int .u32 0, .nils, .nils, .int .i64 0, .int .i64 0, .bool false, .bool false, .bool false, .int .u32 0, .nils]), (2, .box [.int .u32 c56b.s.Own, .int .u32 c56b.s.Peer, .int .i64 c56b.s.Phase, .bool c56b.s.Leads, .int .u32 c56b.s.Seq, .ro 8 (c56b.s.Left.map THeader.c), .ro 8 (c56b.s.Got.map THeader.c), .int .i64 c56b.s.Last.MTU, .int .i64 c56b.s.Last.Options, .bool c56b.s.Last.Init, .bool c56b.s.Last.More, .bool c56b.s.Last.Master, .int .u32 c56b.s.Last.Seq, .ro 8 (c56b.s.Last.Heads.map THeader.c), .own 7 7 0 c56b.waits.length]), (4, .box [.int .u32 c56a.s.Own, .int .u32 c56a.s.Peer, .int .i64 c56a.s.Phase, .bool c56a.s.Leads, .int .u32 c56a.s.Seq, .ro 8 (c56a.s.Left.map THeader.c), .ro 8 (c56a.s.Got.map THeader.c), .int .i64 c56a.s.Last.MTU, .int .i64 c56a.s.Last.Options, .bool c56a.s.Last.Init, .bool c56a.s.Last.More, .bool c56a.s.Last.Master, .int .u32 c56a.s.Last.Seq, .ro 8 (c56a.s.Last.Heads.map THeader.c), .own 6 7 0 c56a.waits.length]), (7, .row 7 29 (c56b.waits.map TDesc.c)), (6, .row 7 29 (c56a.waits.map TDesc.c))]) (next' := 8) [4, 2, 5, 3] [] rfl rfl rfl rfl rfl rfl (f34_ok y9 x8 _ hc56) (.inl rfl) rfl rfl rfl ?_
         refine GX.done ?_
         refine WK.nil (QF.normal (hK19 _ ?_))
         refine WK.nil (QF.normal (hK17 _ ?_))
         refine WK.regx mixed ?_
         refine GX.pure (v' := .int .i64 ((i28 + 1 : Nat) : Int)) rfl rfl rfl rfl (congrArg (PVal.int .i64) (wrap_up hlt15 hlen_15)) ?_
         refine GX.m rfl ?_
         refine GX.done ?_
         refine WK.nil (QF.normal ?_)
         exact hagain_15 _ (fates2.length - (i28 + 1)) ⟨[(6, .ptr 0 0), (7, .ptr 1 0), (8, .ptr 2 0), (9, .ptr 4 0), (26, .ro 1 (fates2.map c_i64)), (27, .int .i64 (fates2.length : Int)), (28, .int .i64 ((i28 + 1) : Int))], [(0, .box [.int .u32 0, .int .u32 0, .int .i64 0, .bool false, .int .u32 0, .nils, .nils, .int .i64 0, .int .i64 0, .bool false, .bool false, .bool false, .int .u32 0, .nils]), (1, .box [.int .u32 0, .int .u32 0, .int .i64 0, .bool false, .int .u32 0, .nils, .nils, .int .i64 0, .int .i64 0, .bool false, .bool false, .bool false, .int .u32 0, .nils]), (2, .box [.int .u32 c56b.s.Own, .int .u32 c56b.s.Peer, .int .i64 c56b.s.Phase, .bool c56b.s.Leads, .int .u32 c56b.s.Seq, .ro 8 (c56b.s.Left.map THeader.c), .ro 8 (c56b.s.Got.map THeader.c), .int .i64 c56b.s.Last.MTU, .int .i64 c56b.s.Last.Options, .bool c56b.s.Last.Init, .bool c56b.s.Last.More, .bool c56b.s.Last.Master, .int .u32 c56b.s.Last.Seq, .ro 8 (c56b.s.Last.Heads.map THeader.c), .own 3 7 0 c56b.waits.length]), (3, .row 7 29 (c56b.waits.map TDesc.c)), (4, .box [.int .u32 c56a.s.Own, .int .u32 c56a.s.Peer, .int .i64 c56a.s.Phase, .bool c56a.s.Leads, .int .u32 c56a.s.Seq, .ro 8 (c56a.s.Left.map THeader.c), .ro 8 (c56a.s.Got.map THeader.c), .int .i64 c56a.s.Last.MTU, .int .i64 c56a.s.Last.Options, .bool c56a.s.Last.Init, .bool c56a.s.Last.More, .bool c56a.s.Last.Master, .int .u32 c56a.s.Last.Seq, .ro 8 (c56a.s.Last.Heads.map THeader.c), .own 5 7 0 c56a.waits.length]), (5, .row 7 29 (c56a.waits.map TDesc.c))], 6⟩ (by omega) (Conv.keep [0, 1, 2, 7, 4, 6] [] [6, 7, 8, 9, 26, 27, 28] rfl rfl (viewE_cons rfl rfl (viewE_cons rfl rfl (viewE_cons rfl rfl (viewE_cons rfl rfl (viewE_cons rfl rfl (viewE_cons rfl rfl (viewE_cons rfl rfl viewE_nil))))))) rfl rfl) ⟨i28 + 1, c56b, c56a, (by omega), rfl, hL_15, rfl⟩
       ·rw [hb24]; try simp only [hb24, bb] at hL_15
        refine WK.condT rfl ?_
        refine WK.skip ?_
        refine WK.condT rfl ?_
        refine WK.regx mixed ?_
        iterate 2 refine GX.m rfl ?_
        generalize hc56 : F34_exch_end_remind y9 x8 = c56 at hL_15
        rcases c56 with _ | c56
        ·try dsimp only at hL_15
         subst hL_15
         try dsimp only at hR
         cases hR
        try dsimp only at hL_15
        obtain ⟨c56a, c56b⟩ := c56; try dsimp only at hL_15
        refine GX.callx (r' := .tup []) (heap' := [(0, .box [.int .u32 0, .int .u32 0, .int .i64 0, .bool false, .int .u32 0, .nils, .nils, .int .i64 0, .int .i64 0, .bool false, .bool false, .bool false, .int .u32 0, .nils]), (1, .box [.int .u32 0, .int .u32 0, .int .i64 0, .bool false, .int .u32 0, .nils, .nils, .int .i64 0, .int .i64 0, .bool false, .bool false, .bool false, .int .u32 0, .nils]), (2, .box [.int .u32 c56b.s.Own, .int .u32 c56b.s.Peer, .int .i64 c56b.s.Phase, .bool c56b.s.Leads, .int .u32 c56b.s.Seq, .ro 8 (c56b.s.Left.map THeader.c), .ro 8 (c56b.s.Got.map THeader.c), .int .i64 c56b.s.Last.MTU, .int .i64 c56b.s.Last.Options, .bool c56b.s.Last.Init, .bool c56b.s.Last.More, .bool c56b.s.Last.Master, .int .u32 c56b.s.Last.Seq, .ro 8 (c56b.s.Last.Heads.map THeader.c), .own 7 7 0 c56b.waits.length]), (4, .box [.int .u32 c56a.s.Own, .int .u32 c56a.s.Peer, .int .i64 c56a.s.Phase, .bool c56a.s.Leads, .int .u32 c56a.s.Seq, .ro 8 (c56a.s.Left.map THeader.c), .ro 8 (c56a.s.Got.map THeader.c), .int .i64 c56a.s.Last.MTU, .int .i64 c56a.s.Last.Options, .bool c56a.s.Last.Init, .bool c56a.s.Last.More, .bool c56a.s.Last.Master, .int .u32 c56a.s.Last.Seq, .ro 8 (c56a.s.Last.Heads.map THeader.c), .own 6 7 0 c56a.waits.length]), (7, .row 7 29 (c56b.waits.map TDesc.c)), (6, .row 7 29 (c56a.waits.map TDesc.c))]) (next' := 8) [4, 2, 5, 3] [] rfl rfl rfl rfl rfl rfl (f34_ok y9 x8 _ hc56) (.inl rfl) rfl rfl rfl ?_
        refine GX.done ?_
        refine WK.nil (QF.normal (hK19 _ ?_))
        refine WK.nil (QF.normal (hK17 _ ?_))
        refine WK.regx mixed ?_
        refine GX.pure (v' := .int .i64 ((i28 + 1 : Nat) : Int)) rfl rfl rfl rfl (congrArg (PVal.int .i64) (wrap_up hlt15 hlen_15)) ?_
        refine GX.m rfl ?_
        refine GX.done ?_
        refine WK.nil (QF.normal ?_)
        exact hagain_15 _ (fates2.length - (i28 + 1)) ⟨[(6, .ptr 0 0), (7, .ptr 1 0), (8, .ptr 2 0), (9, .ptr 4 0), (26, .ro 1 (fates2.map c_i64)), (27, .int .i64 (fates2.length : Int)), (28, .int .i64 ((i28 + 1) : Int))], [(0, .box [.int .u32 0, .int .u32 0, .int .i64 0, .bool false, .int .u32 0, .nils, .nils, .int .i64 0, .int .i64 0, .bool false, .bool false, .bool false, .int .u32 0, .nils]), (1, .box [.int .u32 0, .int .u32 0, .int .i64 0, .bool false, .int .u32 0, .nils, .nils, .int .i64 0, .int .i64 0, .bool false, .bool false, .bool false, .int .u32 0, .nils]), (2, .box [.int .u32 c56b.s.Own, .int .u32 c56b.s.Peer, .int .i64 c56b.s.Phase, .bool c56b.s.Leads, .int .u32 c56b.s.Seq, .ro 8 (c56b.s.Left.map THeader.c), .ro 8 (c56b.s.Got.map THeader.c), .int .i64 c56b.s.Last.MTU, .int .i64 c56b.s.Last.Options, .bool c56b.s.Last.Init, .bool c56b.s.Last.More, .bool c56b.s.Last.Master, .int .u32 c56b.s.Last.Seq, .ro 8 (c56b.s.Last.Heads.map THeader.c), .own 3 7 0 c56b.waits.length]), (3, .row 7 29 (c56b.waits.map TDesc.c)), (4, .box [.int .u32 c56a.s.Own, .int .u32 c56a.s.Peer, .int .i64 c56a.s.Phase, .bool c56a.s.Leads, .int .u32 c56a.s.Seq, .ro 8 (c56a.s.Left.map THeader.c), .ro 8 (c56a.s.Got.map THeader.c), .int .i64 c56a.s.Last.MTU, .int .i64 c56a.s.Last.Options, .bool c56a.s.Last.Init, .bool c56a.s.Last.More, .bool c56a.s.Last.Master, .int .u32 c56a.s.Last.Seq, .ro 8 (c56a.s.Last.Heads.map THeader.c), .own 5 7 0 c56a.waits.length]), (5, .row 7 29 (c56a.waits.map TDesc.c))], 6⟩ (by omega) (Conv.keep [0, 1, 2, 7, 4, 6] [] [6, 7, 8, 9, 26, 27, 28] rfl rfl (viewE_cons rfl rfl (viewE_cons rfl rfl (viewE_cons rfl rfl (viewE_cons rfl rfl (viewE_cons rfl rfl (viewE_cons rfl rfl (viewE_cons rfl rfl viewE_nil))))))) rfl rfl) ⟨i28 + 1, c56b, c56a, (by omega), rfl, hL_15, rfl⟩
      ·rw [hb23]; try simp only [hb23, bb] at hL_15
       refine WK.condT rfl ?_
       refine WK.regx mixed ?_
       refine GX.m rfl ?_
       generalize hc50 : F33_exch_end_next y9 false = c50 at hL_15
       rcases c50 with _ | c50
       ·try dsimp only at hL_15
        subst hL_15
        try dsimp only at hR
        cases hR
       try dsimp only at hL_15
       obtain ⟨c50a, c50b, c50c⟩ := c50; try dsimp only at hL_15
       refine GX.callx (r' := .tup [.agg (TDesc.c c50a), .bool c50b]) (heap' := [(0, .box [.int .u32 0, .int .u32 0, .int .i64 0, .bool false, .int .u32 0, .nils, .nils, .int .i64 0, .int .i64 0, .bool false, .bool false, .bool false, .int .u32 0, .nils]), (1, .box [.int .u32 0, .int .u32 0, .int .i64 0, .bool false, .int .u32 0, .nils, .nils, .int .i64 0, .int .i64 0, .bool false, .bool false, .bool false, .int .u32 0, .nils]), (2, .box [.int .u32 x8.s.Own, .int .u32 x8.s.Peer, .int .i64 x8.s.Phase, .bool x8.s.Leads, .int .u32 x8.s.Seq, .ro 8 (x8.s.Left.map THeader.c), .ro 8 (x8.s.Got.map THeader.c), .int .i64 x8.s.Last.MTU, .int .i64 x8.s.Last.Options, .bool x8.s.Last.Init, .bool x8.s.Last.More, .bool x8.s.Last.Master, .int .u32 x8.s.Last.Seq, .ro 8 (x8.s.Last.Heads.map THeader.c), .own 3 7 0 x8.waits.length]), (3, .row 7 29 (x8.waits.map TDesc.c)), (4, .box [.int .u32 c50c.s.Own, .int .u32 c50c.s.Peer, .int .i64 c50c.s.Phase, .bool c50c.s.Leads, .int .u32 c50c.s.Seq, .ro 8 (c50c.s.Left.map THeader.c), .ro 8 (c50c.s.Got.map THeader.c), .int .i64 c50c.s.Last.MTU, .int .i64 c50c.s.Last.Options, .bool c50c.s.Last.Init, .bool c50c.s.Last.More, .bool c50c.s.Last.Master, .int .u32 c50c.s.Last.Seq, .ro 8 (c50c.s.Last.Heads.map THeader.c), .own 6 7 0 c50c.waits.length]), (6, .row 7 29 (c50c.waits.map TDesc.c))]) (next' := 7) [4, 5] [] rfl rfl rfl rfl rfl rfl (f33_ok y9 false _ hc50) (.inl rfl) rfl rfl rfl ?_
       refine GX.done ?_
       refine WK.nil (QF.normal (hK19 _ ?_))
       refine WK.nil (QF.normal (hK17 _ ?_))
       refine WK.regx mixed ?_
       refine GX.pure (v' := .int .i64 ((i28 + 1 : Nat) : Int)) rfl rfl rfl rfl (congrArg (PVal.int .i64) (wrap_up hlt15 hlen_15)) ?_
       refine GX.m rfl ?_
       refine GX.done ?_
       refine WK.nil (QF.normal ?_)
       exact hagain_15 _ (fates2.length - (i28 + 1)) ⟨[(6, .ptr 0 0), (7, .ptr 1 0), (8, .ptr 2 0), (9, .ptr 4 0), (26, .ro 1 (fates2.map c_i64)), (27, .int .i64 (fates2.length : Int)), (28, .int .i64 ((i28 + 1) : Int))], [(0, .box [.int .u32 0, .int .u32 0, .int .i64 0, .bool false, .int .u32 0, .nils, .nils, .int .i64 0, .int .i64 0, .bool false, .bool false, .bool false, .int .u32 0, .nils]), (1, .box [.int .u32 0, .int .u32 0, .int .i64 0, .bool false, .int .u32 0, .nils, .nils, .int .i64 0, .int .i64 0, .bool false, .bool false, .bool false, .int .u32 0, .nils]), (2, .box [.int .u32 x8.s.Own, .int .u32 x8.s.Peer, .int .i64 x8.s.Phase, .bool x8.s.Leads, .int .u32 x8.s.Seq, .ro 8 (x8.s.Left.map THeader.c), .ro 8 (x8.s.Got.map THeader.c), .int .i64 x8.s.Last.MTU, .int .i64 x8.s.Last.Options, .bool x8.s.Last.Init, .bool x8.s.Last.More, .bool x8.s.Last.Master, .int .u32 x8.s.Last.Seq, .ro 8 (x8.s.Last.Heads.map THeader.c), .own 3 7 0 x8.waits.length]), (3, .row 7 29 (x8.waits.map TDesc.c)), (4, .box [.int .u32 c50c.s.Own, .int .u32 c50c.s.Peer, .int .i64 c50c.s.Phase, .bool c50c.s.Leads, .int .u32 c50c.s.Seq, .ro 8 (c50c.s.Left.map THeader.c), .ro 8 (c50c.s.Got.map THeader.c), .int .i64 c50c.s.Last.MTU, .int .i64 c50c.s.Last.Options, .bool c50c.s.Last.Init, .bool c50c.s.Last.More, .bool c50c.s.Last.Master, .int .u32 c50c.s.Last.Seq, .ro 8 (c50c.s.Last.Heads.map THeader.c), .own 5 7 0 c50c.waits.length]), (5, .row 7 29 (c50c.waits.map TDesc.c))], 6⟩ (by omega) (Conv.keep [0, 1, 2, 3, 4, 6] [] [6, 7, 8, 9, 26, 27, 28] rfl rfl (viewE_cons rfl rfl (viewE_cons rfl rfl (viewE_cons rfl rfl (viewE_cons rfl rfl (viewE_cons rfl rfl (viewE_cons rfl rfl (viewE_cons rfl rfl viewE_nil))))))) rfl rfl) ⟨i28 + 1, x8, c50c, (by omega), rfl, hL_15, rfl⟩
     ·rw [hb22]; try simp only [hb22, bb] at hL_15
      refine WK.condT rfl ?_
      refine WK.skip ?_
      refine WK.condT rfl ?_
      refine WK.regx mixed ?_
      refine GX.m rfl ?_
      generalize hc50 : F33_exch_end_next y9 false = c50 at hL_15
      rcases c50 with _ | c50
      ·try dsimp only at hL_15
       subst hL_15
       try dsimp only at hR
       cases hR
      try dsimp only at hL_15
      obtain ⟨c50a, c50b, c50c⟩ := c50; try dsimp only at hL_15
      refine GX.callx (r' := .tup [.agg (TDesc.c c50a), .bool c50b]) (heap' := [(0, .box [.int .u32 0, .int .u32 0, .int .i64 0, .bool false, .int .u32 0, .nils, .nils, .int .i64 0, .int .i64 0, .bool false, .bool false, .bool false, .int .u32 0, .nils]), (1, .box [.int .u32 0, .int .u32 0, .int .i64 0, .bool false, .int .u32 0, .nils, .nils, .int .i64 0, .int .i64 0, .bool false, .bool false, .bool false, .int .u32 0, .nils]), (2, .box [.int .u32 x8.s.Own, .int .u32 x8.s.Peer, .int .i64 x8.s.Phase, .bool x8.s.Leads, .int .u32 x8.s.Seq, .ro 8 (x8.s.Left.map THeader.c), .ro 8 (x8.s.Got.map THeader.c), .int .i64 x8.s.Last.MTU, .int .i64 x8.s.Last.Options, .bool x8.s.Last.Init, .bool x8.s.Last.More, .bool x8.s.Last.Master, .int .u32 x8.s.Last.Seq, .ro 8 (x8.s.Last.Heads.map THeader.c), .own 3 7 0 x8.waits.length]), (3, .row 7 29 (x8.waits.map TDesc.c)), (4, .box [.int .u32 c50c.s.Own, .int .u32 c50c.s.Peer, .int .i64 c50c.s.Phase, .bool c50c.s.Leads, .int .u32 c50c.s.Seq, .ro 8 (c50c.s.Left.map THeader.c), .ro 8 (c50c.s.Got.map THeader.c), .int .i64 c50c.s.Last.MTU, .int .i64 c50c.s.Last.Options, .bool c50c.s.Last.Init, .bool c50c.s.Last.More, .bool c50c.s.Last.Master, .int .u32 c50c.s.Last.Seq, .ro 8 (c50c.s.Last.Heads.map THeader.c), .own 6 7 0 c50c.waits.length]), (6, .row 7 29 (c50c.waits.map TDesc.c))]) (next' := 7) [4, 5] [] rfl rfl rfl rfl rfl rfl (f33_ok y9 false _ hc50) (.inl rfl) rfl rfl rfl ?_
      refine GX.done ?_
      refine WK.nil (QF.normal (hK19 _ ?_))
      refine WK.nil (QF.normal (hK17 _ ?_))
      refine WK.regx mixed ?_
      refine GX.pure (v' := .int .i64 ((i28 + 1 : Nat) : Int)) rfl rfl rfl rfl (congrArg (PVal.int .i64) (wrap_up hlt15 hlen_15)) ?_
      refine GX.m rfl ?_
      refine GX.done ?_
      refine WK.nil (QF.normal ?_)
      exact hagain_15 _ (fates2.length - (i28 + 1)) ⟨[(6, .ptr 0 0), (7, .ptr 1 0), (8, .ptr 2 0), (9, .ptr 4 0), (26, .ro 1 (fates2.map c_i64)), (27, .int .i64 (fates2.length : Int)), (28, .int .i64 ((i28 + 1) : Int))], [(0, .box [.int .u32 0, .int .u32 0, .int .i64 0, .bool false, .int .u32 0, .nils, .nils, .int .i64 0, .int .i64 0, .bool false, .bool false, .bool false, .int .u32 0, .nils]), (1, .box [.int .u32 0, .int .u32 0, .int .i64 0, .bool false, .int .u32 0, .nils, .nils, .int .i64 0, .int .i64 0, .bool false, .bool false, .bool false, .int .u32 0, .nils]), (2, .box [.int .u32 x8.s.Own, .int .u32 x8.s.Peer, .int .i64 x8.s.Phase, .bool x8.s.Leads, .int .u32 x8.s.Seq, .ro 8 (x8.s.Left.map THeader.c), .ro 8 (x8.s.Got.map THeader.c), .int .i64 x8.s.Last.MTU, .int .i64 x8.s.Last.Options, .bool x8.s.Last.Init, .bool x8.s.Last.More, .bool x8.s.Last.Master, .int .u32 x8.s.Last.Seq, .ro 8 (x8.s.Last.Heads.map THeader.c), .own 3 7 0 x8.waits.length]), (3, .row 7 29 (x8.waits.map TDesc.c)), (4, .box [.int .u32 c50c.s.Own, .int .u32 c50c.s.Peer, .int .i64 c50c.s.Phase, .bool c50c.s.Leads, .int .u32 c50c.s.Seq, .ro 8 (c50c.s.Left.map THeader.c), .ro 8 (c50c.s.Got.map THeader.c), .int .i64 c50c.s.Last.MTU, .int .i64 c50c.s.Last.Options, .bool c50c.s.Last.Init, .bool c50c.s.Last.More, .bool c50c.s.Last.Master, .int .u32 c50c.s.Last.Seq, .ro 8 (c50c.s.Last.Heads.map THeader.c), .own 5 7 0 c50c.waits.length]), (5, .row 7 29 (c50c.waits.map TDesc.c))], 6⟩ (by omega) (Conv.keep [0, 1, 2, 3, 4, 6] [] [6, 7, 8, 9, 26, 27, 28] rfl rfl (viewE_cons rfl rfl (viewE_cons rfl rfl (viewE_cons rfl rfl (viewE_cons rfl rfl (viewE_cons rfl rfl (viewE_cons rfl rfl (viewE_cons rfl rfl viewE_nil))))))) rfl rfl) ⟨i28 + 1, x8, c50c, (by omega), rfl, hL_15, rfl⟩
    ·rw [hb21]; try simp only [hb21, bb] at hL_15
     refine WK.condT rfl ?_
     refine WK.regx mixed ?_
     iterate 2 refine GX.m rfl ?_
     generalize hc45 : F32_exch_end_hear y9 x8 false = c45 at hL_15
     rcases c45 with _ | c45
     ·try dsimp only at hL_15
      subst hL_15
      try dsimp only at hR
      cases hR
     try dsimp only at hL_15
     obtain ⟨c45a, c45b⟩ := c45; try dsimp only at hL_15
     refine GX.callx (r' := .tup []) (heap' := [(0, .box [.int .u32 0, .int .u32 0, .int .i64 0, .bool false, .int .u32 0, .nils, .nils, .int .i64 0, .int .i64 0, .bool false, .bool false, .bool false, .int .u32 0, .nils]), (1, .box [.int .u32 0, .int .u32 0, .int .i64 0, .bool false, .int .u32 0, .nils, .nils, .int .i64 0, .int .i64 0, .bool false, .bool false, .bool false, .int .u32 0, .nils]), (2, .box [.int .u32 c45b.s.Own, .int .u32 c45b.s.Peer, .int .i64 c45b.s.Phase, .bool c45b.s.Leads, .int .u32 c45b.s.Seq, .ro 8 (c45b.s.Left.map THeader.c), .ro 8 (c45b.s.Got.map THeader.c), .int .i64 c45b.s.Last.MTU, .int .i64 c45b.s.Last.Options, .bool c45b.s.Last.Init, .bool c45b.s.Last.More, .bool c45b.s.Last.Master, .int .u32 c45b.s.Last.Seq, .ro 8 (c45b.s.Last.Heads.map THeader.c), .own 7 7 0 c45b.waits.length]), (4, .box [.int .u32 c45a.s.Own, .int .u32 c45a.s.Peer, .int .i64 c45a.s.Phase, .bool c45a.s.Leads, .int .u32 c45a.s.Seq, .ro 8 (c45a.s.Left.map THeader.c), .ro 8 (c45a.s.Got.map THeader.c), .int .i64 c45a.s.Last.MTU, .int .i64 c45a.s.Last.Options, .bool c45a.s.Last.Init, .bool c45a.s.Last.More, .bool c45a.s.Last.Master, .int .u32 c45a.s.Last.Seq, .ro 8 (c45a.s.Last.Heads.map THeader.c), .own 6 7 0 c45a.waits.length]), (7, .row 7 29 (c45b.waits.map TDesc.c)), (6, .row 7 29 (c45a.waits.map TDesc.c))]) (next' := 8) [4, 2, 5, 3] [] rfl rfl rfl rfl rfl rfl (f32_ok y9 x8 false _ hc45) (.inl rfl) rfl rfl rfl ?_
     refine GX.done ?_
     refine WK.nil (QF.normal (hK19 _ ?_))
     refine WK.nil (QF.normal (hK17 _ ?_))
     refine WK.regx mixed ?_
     refine GX.pure (v' := .int .i64 ((i28 + 1 : Nat) : Int)) rfl rfl rfl rfl (congrArg (PVal.int .i64) (wrap_up hlt15 hlen_15)) ?_
     refine GX.m rfl ?_
     refine GX.done ?_
     refine WK.nil (QF.normal ?_)
     exact hagain_15 _ (fates2.length - (i28 + 1)) ⟨[(6, .ptr 0 0), (7, .ptr 1 0), (8, .ptr 2 0), (9, .ptr 4 0), (26, .ro 1 (fates2.map c_i64)), (27, .int .i64 (fates2.length : Int)), (28, .int .i64 ((i28 + 1) : Int))], [(0, .box [.int .u32 0, .int .u32 0, .int .i64 0, .bool false, .int .u32 0, .nils, .nils, .int .i64 0, .int .i64 0, .bool false, .bool false, .bool false, .int .u32 0, .nils]), (1, .box [.int .u32 0, .int .u32 0, .int .i64 0, .bool false, .int .u32 0, .nils, .nils, .int .i64 0, .int .i64 0, .bool false, .bool false, .bool false, .int .u32 0, .nils]), (2, .box [.int .u32 c45b.s.Own, .int .u32 c45b.s.Peer, .int .i64 c45b.s.Phase, .bool c45b.s.Leads, .int .u32 c45b.s.Seq, .ro 8 (c45b.s.Left.map THeader.c), .ro 8 (c45b.s.Got.map THeader.c), .int .i64 c45b.s.Last.MTU, .int .i64 c45b.s.Last.Options, .bool c45b.s.Last.Init, .bool c45b.s.Last.More, .bool c45b.s.Last.Master, .int .u32 c45b.s.Last.Seq, .ro 8 (c45b.s.Last.Heads.map THeader.c), .own 3 7 0 c45b.waits.length]), (3, .row 7 29 (c45b.waits.map TDesc.c)), (4, .box [.int .u32 c45a.s.Own, .int .u32 c45a.s.Peer, .int .i64 c45a.s.Phase, .bool c45a.s.Leads, .int .u32 c45a.s.Seq, .ro 8 (c45a.s.Left.map THeader.c), .ro 8 (c45a.s.Got.map THeader.c), .int .i64 c45a.s.Last.MTU, .int .i64 c45a.s.Last.Options, .bool c45a.s.Last.Init, .bool c45a.s.Last.More, .bool c45a.s.Last.Master, .int .u32 c45a.s.Last.Seq, .ro 8 (c45a.s.Last.Heads.map THeader.c), .own 5 7 0 c45a.waits.length]), (5, .row 7 29 (c45a.waits.map TDesc.c))], 6⟩ (by omega) (Conv.keep [0, 1, 2, 7, 4, 6] [] [6, 7, 8, 9, 26, 27, 28] rfl rfl (viewE_cons rfl rfl (viewE_cons rfl rfl (viewE_cons rfl rfl (viewE_cons rfl rfl (viewE_cons rfl rfl (viewE_cons rfl rfl (viewE_cons rfl rfl viewE_nil))))))) rfl rfl) ⟨i28 + 1, c45b, c45a, (by omega), rfl, hL_15, rfl⟩
   ·rw [hb20]; try simp only [hb20, bb] at hL_15
    refine WK.condT rfl ?_
    refine WK.skip ?_
    refine WK.condT rfl ?_
    refine WK.regx mixed ?_
    iterate 2 refine GX.m rfl ?_
    generalize hc45 : F32_exch_end_hear y9 x8 false = c45 at hL_15
    rcases c45 with _ | c45
    ·try dsimp only at hL_15
     subst hL_15
     try dsimp only at hR
     cases hR
    try dsimp only at hL_15
    obtain ⟨c45a, c45b⟩ := c45; try dsimp only at hL_15
    refine GX.callx (r' := .tup []) (heap' := [(0, .box [.int .u32 0, .int .u32 0, .int .i64 0, .bool false, .int .u32 0, .nils, .nils, .int .i64 0, .int .i64 0, .bool false, .bool false, .bool false, .int .u32 0, .nils]), (1, .box [.int .u32 0, .int .u32 0, .int .i64 0, .bool false, .int .u32 0, .nils, .nils, .int .i64 0, .int .i64 0, .bool false, .bool false, .bool false, .int .u32 0, .nils]), (2, .box [.int .u32 c45b.s.Own, .int .u32 c45b.s.Peer, .int .i64 c45b.s.Phase, .bool c45b.s.Leads, .int .u32 c45b.s.Seq, .ro 8 (c45b.s.Left.map THeader.c), .ro 8 (c45b.s.Got.map THeader.c), .int .i64 c45b.s.Last.MTU, .int .i64 c45b.s.Last.Options, .bool c45b.s.Last.Init, .bool c45b.s.Last.More, .bool c45b.s.Last.Master, .int .u32 c45b.s.Last.Seq, .ro 8 (c45b.s.Last.Heads.map THeader.c), .own 7 7 0 c45b.waits.length]), (4, .box [.int .u32 c45a.s.Own, .int .u32 c45a.s.Peer, .int .i64 c45a.s.Phase, .bool c45a.s.Leads, .int .u32 c45a.s.Seq, .ro 8 (c45a.s.Left.map THeader.c), .ro 8 (c45a.s.Got.map THeader.c), .int .i64 c45a.s.Last.MTU, .int .i64 c45a.s.Last.Options, .bool c45a.s.Last.Init, .bool c45a.s.Last.More, .bool c45a.s.Last.Master, .int .u32 c45a.s.Last.Seq, .ro 8 (c45a.s.Last.Heads.map THeader.c), .own 6 7 0 c45a.waits.length]), (7, .row 7 29 (c45b.waits.map TDesc.c)), (6, .row 7 29 (c45a.waits.map TDesc.c))]) (next' := 8) [4, 2, 5, 3] [] rfl rfl rfl rfl rfl rfl (f32_ok y9 x8 false _ hc45) (.inl rfl) rfl rfl rfl ?_
    refine GX.done ?_
    refine WK.nil (QF.normal (hK19 _ ?_))
    refine WK.nil (QF.normal (hK17 _ ?_))
    refine WK.regx mixed ?_
    refine GX.pure (v' := .int .i64 ((i28 + 1 : Nat) : Int)) rfl rfl rfl rfl (congrArg (PVal.int .i64) (wrap_up hlt15 hlen_15)) ?_
    refine GX.m rfl ?_
    refine GX.done ?_
    refine WK.nil (QF.normal ?_)
    exact hagain_15 _ (fates2.length - (i28 + 1)) ⟨[(6, .ptr 0 0), (7, .ptr 1 0), (8, .ptr 2 0), (9, .ptr 4 0), (26, .ro 1 (fates2.map c_i64)), (27, .int .i64 (fates2.length : Int)), (28, .int .i64 ((i28 + 1) : Int))], [(0, .box [.int .u32 0, .int .u32 0, .int .i64 0, .bool false, .int .u32 0, .nils, .nils, .int .i64 0, .int .i64 0, .bool false, .bool false, .bool false, .int .u32 0, .nils]), (1, .box [.int .u32 0, .int .u32 0, .int .i64 0, .bool false, .int .u32 0, .nils, .nils, .int .i64 0, .int .i64 0, .bool false, .bool false, .bool false, .int .u32 0, .nils]), (2, .box [.int .u32 c45b.s.Own, .int .u32 c45b.s.Peer, .int .i64 c45b.s.Phase, .bool c45b.s.Leads, .int .u32 c45b.s.Seq, .ro 8 (c45b.s.Left.map THeader.c), .ro 8 (c45b.s.Got.map THeader.c), .int .i64 c45b.s.Last.MTU, .int .i64 c45b.s.Last.Options, .bool c45b.s.Last.Init, .bool c45b.s.Last.More, .bool c45b.s.Last.Master, .int .u32 c45b.s.Last.Seq, .ro 8 (c45b.s.Last.Heads.map THeader.c), .own 3 7 0 c45b.waits.length]), (3, .row 7 29 (c45b.waits.map TDesc.c)), (4, .box [.int .u32 c45a.s.Own, .int .u32 c45a.s.Peer, .int .i64 c45a.s.Phase, .bool c45a.s.Leads, .int .u32 c45a.s.Seq, .ro 8 (c45a.s.Left.map THeader.c), .ro 8 (c45a.s.Got.map THeader.c), .int .i64 c45a.s.Last.MTU, .int .i64 c45a.s.Last.Options, .bool c45a.s.Last.Init, .bool c45a.s.Last.More, .bool c45a.s.Last.Master, .int .u32 c45a.s.Last.Seq, .ro 8 (c45a.s.Last.Heads.map THeader.c), .own 5 7 0 c45a.waits.length]), (5, .row 7 29 (c45a.waits.map TDesc.c))], 6⟩ (by omega) (Conv.keep [0, 1, 2, 7, 4, 6] [] [6, 7, 8, 9, 26, 27, 28] rfl rfl (viewE_cons rfl rfl (viewE_cons rfl rfl (viewE_cons rfl rfl (viewE_cons rfl rfl (viewE_cons rfl rfl (viewE_cons rfl rfl (viewE_cons rfl rfl viewE_nil))))))) rfl rfl) ⟨i28 + 1, c45b, c45a, (by omega), rfl, hL_15, rfl⟩
  ·rw [hb18]; try simp only [hb18, bb] at hL_15
   refine WK.condF rfl ?_
   refine WK.skip ?_
   refine WK.sr mixed ?_
   refine GX.m rfl ?_
   refine GX.done ?_
   refine WK.blockK (fun _ hK36 => ?_)
   refine WK.seq ?_
   refine WK.sr mixed ?_
   refine GX.q (.bool (decide (x28 = 0))) ?_
   refine GX.m rfl ?_
   refine GX.done ?_
   rcases bool_two (decide (x28 = 0)) with hb37 | hb37
   ·rw [hb37]; try simp only [hb37, bb] at hL_15
    refine WK.condF rfl ?_
    refine WK.regx mixed ?_
    refine GX.q (.bool (decide (x28 = 1))) ?_
    refine GX.m rfl ?_
    refine GX.done ?_
    rcases bool_two (decide (x28 = 1)) with hb38 | hb38
    ·rw [hb38]; try simp only [hb38, bb] at hL_15
     refine WK.condF rfl ?_
     refine WK.seq ?_
     refine WK.sr mixed ?_
     refine GX.q (.bool (decide (x28 = 2))) ?_
     refine GX.m rfl ?_
     refine GX.done ?_
     rcases bool_two (decide (x28 = 2)) with hb39 | hb39
     ·rw [hb39]; try simp only [hb39, bb] at hL_15
      refine WK.condF rfl ?_
      refine WK.regx mixed ?_
      refine GX.q (.bool (decide (x28 = 3))) ?_
      refine GX.m rfl ?_
      refine GX.done ?_
      rcases bool_two (decide (x28 = 3)) with hb40 | hb40
      ·rw [hb40]; try simp only [hb40, bb] at hL_15
       refine WK.condF rfl ?_
       refine WK.seq ?_
       refine WK.sr mixed ?_
       refine GX.q (.bool (decide (x28 = 4))) ?_
       refine GX.m rfl ?_
       refine GX.done ?_
       rcases bool_two (decide (x28 = 4)) with hb41 | hb41
       ·rw [hb41]; try simp only [hb41, bb] at hL_15
        refine WK.condF rfl ?_
        refine WK.regx mixed ?_
        refine GX.q (.bool (decide (x28 = 5))) ?_
        refine GX.m rfl ?_
        refine GX.done ?_
        rcases bool_two (decide (x28 = 5)) with hb42 | hb42
        ·rw [hb42]; try simp only [hb42, bb] at hL_15
         refine WK.condF rfl ?_
         refine WK.seq ?_
         refine WK.sr mixed ?_
         refine GX.q (.bool (decide (x28 = 6))) ?_
         refine GX.m rfl ?_
         refine GX.done ?_
         rcases bool_two (decide (x28 = 6)) with hb43 | hb43
         ·rw [hb43]; try simp only [hb43, bb] at hL_15
          refine WK.condF rfl ?_
          refine WK.regx mixed ?_
          refine GX.q (.bool (decide (x28 = 7))) ?_
          refine GX.m rfl ?_
          refine GX.done ?_
          rcases bool_two (decide (x28 = 7)) with hb44 | hb44
          ·rw [hb44]; try simp only [hb44, bb] at hL_15
           refine WK.condF rfl ?_
           refine WK.skip ?_
           refine WK.nil (QF.normal (hK36 _ ?_))
           refine WK.nil (QF.normal (hK17 _ ?_))
           refine WK.regx mixed ?_
           refine GX.pure (v' := .int .i64 ((i28 + 1 : Nat) : Int)) rfl rfl rfl rfl (congrArg (PVal.int .i64) (wrap_up hlt15 hlen_15)) ?_
           refine GX.m rfl ?_
           refine GX.done ?_
           refine WK.nil (QF.normal ?_)
           exact hagain_15 _ (fates2.length - (i28 + 1)) ⟨[(6, .ptr 0 0), (7, .ptr 1 0), (8, .ptr 2 0), (9, .ptr 4 0), (26, .ro 1 (fates2.map c_i64)), (27, .int .i64 (fates2.length : Int)), (28, .int .i64 ((i28 + 1) : Int))], [(0, .box [.int .u32 0, .int .u32 0, .int .i64 0, .bool false, .int .u32 0, .nils, .nils, .int .i64 0, .int .i64 0, .bool false, .bool false, .bool false, .int .u32 0, .nils]), (1, .box [.int .u32 0, .int .u32 0, .int .i64 0, .bool false, .int .u32 0, .nils, .nils, .int .i64 0, .int .i64 0, .bool false, .bool false, .bool false, .int .u32 0, .nils]), (2, .box [.int .u32 x8.s.Own, .int .u32 x8.s.Peer, .int .i64 x8.s.Phase, .bool x8.s.Leads, .int .u32 x8.s.Seq, .ro 8 (x8.s.Left.map THeader.c), .ro 8 (x8.s.Got.map THeader.c), .int .i64 x8.s.Last.MTU, .int .i64 x8.s.Last.Options, .bool x8.s.Last.Init, .bool x8.s.Last.More, .bool x8.s.Last.Master, .int .u32 x8.s.Last.Seq, .ro 8 (x8.s.Last.Heads.map THeader.c), .own 3 7 0 x8.waits.length]), (3, .row 7 29 (x8.waits.map TDesc.c)), (4, .box [.int .u32 y9.s.Own, .int .u32 y9.s.Peer, .int .i64 y9.s.Phase, .bool y9.s.Leads, .int .u32 y9.s.Seq, .ro 8 (y9.s.Left.map THeader.c), .ro 8 (y9.s.Got.map THeader.c), .int .i64 y9.s.Last.MTU, .int .i64 y9.s.Last.Options, .bool y9.s.Last.Init, .bool y9.s.Last.More, .bool y9.s.Last.Master, .int .u32 y9.s.Last.Seq, .ro 8 (y9.s.Last.Heads.map THeader.c), .own 5 7 0 y9.waits.length]), (5, .row 7 29 (y9.waits.map TDesc.c))], 6⟩ (by omega) (Conv.keep [0, 1, 2, 3, 4, 5] [] [6, 7, 8, 9, 26, 27, 28] rfl rfl (viewE_cons rfl rfl (viewE_cons rfl rfl (viewE_cons rfl rfl (viewE_cons rfl rfl (viewE_cons rfl rfl (viewE_cons rfl rfl (viewE_cons rfl rfl viewE_nil))))))) rfl rfl) ⟨i28 + 1, x8, y9, (by omega), rfl, hL_15, rfl⟩
          ·rw [hb44]; try simp only [hb44, bb] at hL_15
           refine WK.condT rfl ?_
           refine WK.regx mixed ?_
           iterate 2 refine GX.m rfl ?_
           generalize hc62 : F32_exch_end_hear x8 y9 true = c62 at hL_15
           rcases c62 with _ | c62
           ·try dsimp only at hL_15
            subst hL_15
            try dsimp only at hR
            cases hR
           try dsimp only at hL_15
           obtain ⟨c62a, c62b⟩ := c62; try dsimp only at hL_15
           refine GX.callx (r' := .tup []) (heap' := [(0, .box [.int .u32 0, .int .u32 0, .int .i64 0, .bool false, .int .u32 0, .nils, .nils, .int .i64 0, .int .i64 0, .bool false, .bool false, .bool false, .int .u32 0, .nils]), (1, .box [.int .u32 0, .int .u32 0, .int .i64 0, .bool false, .int .u32 0, .nils, .nils, .int .i64 0, .int .i64 0, .bool false, .bool false, .bool false, .int .u32 0, .nils]), (2, .box [.int .u32 c62a.s.Own, .int .u32 c62a.s.Peer, .int .i64 c62a.s.Phase, .bool c62a.s.Leads, .int .u32 c62a.s.Seq, .ro 8 (c62a.s.Left.map THeader.c), .ro 8 (c62a.s.Got.map THeader.c), .int .i64 c62a.s.Last.MTU, .int .i64 c62a.s.Last.Options, .bool c62a.s.Last.Init, .bool c62a.s.Last.More, .bool c62a.s.Last.Master, .int .u32 c62a.s.Last.Seq, .ro 8 (c62a.s.Last.Heads.map THeader.c), .own 6 7 0 c62a.waits.length]), (4, .box [.int .u32 c62b.s.Own, .int .u32 c62b.s.Peer, .int .i64 c62b.s.Phase, .bool c62b.s.Leads, .int .u32 c62b.s.Seq, .ro 8 (c62b.s.Left.map THeader.c), .ro 8 (c62b.s.Got.map THeader.c), .int .i64 c62b.s.Last.MTU, .int .i64 c62b.s.Last.Options, .bool c62b.s.Last.Init, .bool c62b.s.Last.More, .bool c62b.s.Last.Master, .int .u32 c62b.s.Last.Seq, .ro 8 (c62b.s.Last.Heads.map THeader.c), .own 7 7 0 c62b.waits.length]), (7, .row 7 29 (c62b.waits.map TDesc.c)), (6, .row 7 29 (c62a.waits.map TDesc.c))]) (next' := 8) [2, 4, 3, 5] [] rfl rfl rfl rfl rfl rfl (f32_ok x8 y9 true _ hc62) (.inl rfl) rfl rfl rfl ?_
           refine GX.done ?_
           refine WK.nil (QF.normal (hK36 _ ?_))
           refine WK.nil (QF.normal (hK17 _ ?_))
           refine WK.regx mixed ?_
           refine GX.pure (v' := .int .i64 ((i28 + 1 : Nat) : Int)) rfl rfl rfl rfl (congrArg (PVal.int .i64) (wrap_up hlt15 hlen_15)) ?_
           refine GX.m rfl ?_
           refine GX.done ?_
           refine WK.nil (QF.normal ?_)
           exact hagain_15 _ (fates2.length - (i28 + 1)) ⟨[(6, .ptr 0 0), (7, .ptr 1 0), (8, .ptr 2 0), (9, .ptr 4 0), (26, .ro 1 (fates2.map c_i64)), (27, .int .i64 (fates2.length : Int)), (28, .int .i64 ((i28 + 1) : Int))], [(0, .box [.int .u32 0, .int .u32 0, .int .i64 0, .bool false, .int .u32 0, .nils, .nils, .int .i64 0, .int .i64 0, .bool false, .bool false, .bool false, .int .u32 0, .nils]), (1, .box [.int .u32 0, .int .u32 0, .int .i64 0, .bool false, .int .u32 0, .nils, .nils, .int .i64 0, .int .i64 0, .bool false, .bool false, .bool false, .int .u32 0, .nils]), (2, .box [.int .u32 c62a.s.Own, .int .u32 c62a.s.Peer, .int .i64 c62a.s.Phase, .bool c62a.s.Leads, .int .u32 c62a.s.Seq, .ro 8 (c62a.s.Left.map THeader.c), .ro 8 (c62a.s.Got.map THeader.c), .int .i64 c62a.s.Last.MTU, .int .i64 c62a.s.Last.Options, .bool c62a.s.Last.Init, .bool c62a.s.Last.More, .bool c62a.s.Last.Master, .int .u32 c62a.s.Last.Seq, .ro 8 (c62a.s.Last.Heads.map THeader.c), .own 3 7 0 c62a.waits.length]), (3, .row 7 29 (c62a.waits.map TDesc.c)), (4, .box [.int .u32 c62b.s.Own, .int .u32 c62b.s.Peer, .int .i64 c62b.s.Phase, .bool c62b.s.Leads, .int .u32 c62b.s.Seq, .ro 8 (c62b.s.Left.map THeader.c), .ro 8 (c62b.s.Got.map THeader.c), .int .i64 c62b.s.Last.MTU, .int .i64 c62b.s.Last.Options, .bool c62b.s.Last.Init, .bool c62b.s.Last.More, .bool c62b.s.Last.Master, .int .u32 c62b.s.Last.Seq, .ro 8 (c62b.s.Last.Heads.map THeader.c), .own 5 7 0 c62b.waits.length]), (5, .row 7 29 (c62b.waits.map TDesc.c))], 6⟩ (by omega) (Conv.keep [0, 1, 2, 6, 4, 7] [] [6, 7, 8, 9, 26, 27, 28] rfl rfl (viewE_cons rfl rfl (viewE_cons rfl rfl (viewE_cons rfl rfl (viewE_cons rfl rfl (viewE_cons rfl rfl (viewE_cons rfl rfl (viewE_cons rfl rfl viewE_nil))))))) rfl rfl) ⟨i28 + 1, c62a, c62b, (by omega), rfl, hL_15, rfl⟩
         ·rw [hb43]; try simp only [hb43, bb] at hL_15
          refine WK.condT rfl ?_
          refine WK.skip ?_
          refine WK.condT rfl ?_
          refine WK.regx mixed ?_
          iterate 2 refine GX.m rfl ?_
          generalize hc62 : F32_exch_end_hear x8 y9 true = c62 at hL_15
          rcases c62 with _ | c62
          ·try dsimp only at hL_15
           subst hL_15
           try dsimp only at hR
           cases hR
          try dsimp only at hL_15
          obtain ⟨c62a, c62b⟩ := c62; try dsimp only at hL_15
          refine GX.callx (r' := .tup []) (heap' := [(0, .box [.int .u32 0, .int .u32 0, .int .i64 0, .bool false, .int .u32 0, .nils, .nils, .int .i64 0, .int .i64 0, .bool false, .bool false, .bool false, .int .u32 0, .nils]), (1, .box [.int .u32 0, .int .u32 0, .int .i64 0, .bool false, .int .u32 0, .nils, .nils, .int .i64 0, .int .i64 0, .bool false, .bool false, .bool false, .int .u32 0, .nils]), (2, .box [.int .u32 c62a.s.Own, .int .u32 c62a.s.Peer, .int .i64 c62a.s.Phase, .bool c62a.s.Leads, .int .u32 c62a.s.Seq, .ro 8 (c62a.s.Left.map THeader.c), .ro 8 (c62a.s.Got.map THeader.c), .int .i64 c62a.s.Last.MTU, .int .i64 c62a.s.Last.Options, .bool c62a.s.Last.Init, .bool c62a.s.Last.More, .bool c62a.s.Last.Master, .int .u32 c62a.s.Last.Seq, .ro 8 (c62a.s.Last.Heads.map THeader.c), .own 6 7 0 c62a.waits.length]), (4, .box [.int .u32 c62b.s.Own, .int .u32 c62b.s.Peer, .int .i64 c62b.s.Phase, .bool c62b.s.Leads, .int .u32 c62b.s.Seq, .ro 8 (c62b.s.Left.map THeader.c), .ro 8 (c62b.s.Got.map THeader.c), .int .i64 c62b.s.Last.MTU, .int .i64 c62b.s.Last.Options, .bool c62b.s.Last.Init, .bool c62b.s.Last.More, .bool c62b.s.Last.Master, .int .u32 c62b.s.Last.Seq, .ro 8 (c62b.s.Last.Heads.map THeader.c), .own 7 7 0 c62b.waits.length]), (7, .row 7 29 (c62b.waits.map TDesc.c)), (6, .row 7 29 (c62a.waits.map TDesc.c))]) (next' := 8) [2, 4, 3, 5] [] rfl rfl rfl rfl rfl rfl (f32_ok x8 y9 true _ hc62) (.inl rfl) rfl rfl rfl ?_
          refine GX.done ?_
          refine WK.nil (QF.normal (hK36 _ ?_))
          refine WK.nil (QF.normal (hK17 _ ?_))
          refine WK.regx mixed ?_
          refine GX.pure (v' := .int .i64 ((i28 + 1 : Nat) : Int)) rfl rfl rfl rfl (congrArg (PVal.int .i64) (wrap_up hlt15 hlen_15)) ?_
          refine GX.m rfl ?_
          refine GX.done ?_
          refine WK.nil (QF.normal ?_)
          exact hagain_15 _ (fates2.length - (i28 + 1)) ⟨[(6, .ptr 0 0), (7, .ptr 1 0), (8, .ptr 2 0), (9, .ptr 4 0), (26, .ro 1 (fates2.map c_i64)), (27, .int .i64 (fates2.length : Int)), (28, .int .i64 ((i28 + 1) : Int))], [(0, .box [.int .u32 0, .int .u32 0, .int .i64 0, .bool false, .int .u32 0, .nils, .nils, .int .i64 0, .int .i64 0, .bool false, .bool false, .bool false, .int .u32 0, .nils]), (1, .box [.int .u32 0, .int .u32 0, .int .i64 0, .bool false, .int .u32 0, .nils, .nils, .int .i64 0, .int .i64 0, .bool false, .bool false, .bool false, .int .u32 0, .nils]), (2, .box [.int .u32 c62a.s.Own, .int .u32 c62a.s.Peer, .int .i64 c62a.s.Phase, .bool c62a.s.Leads, .int .u32 c62a.s.Seq, .ro 8 (c62a.s.Left.map THeader.c), .ro 8 (c62a.s.Got.map THeader.c), .int .i64 c62a.s.Last.MTU, .int .i64 c62a.s.Last.Options, .bool c62a.s.Last.Init, .bool c62a.s.Last.More, .bool c62a.s.Last.Master, .int .u32 c62a.s.Last.Seq, .ro 8 (c62a.s.Last.Heads.map THeader.c), .own 3 7 0 c62a.waits.length]), (3, .row 7 29 (c62a.waits.map TDesc.c)), (4, .box [.int .u32 c62b.s.Own, .int .u32 c62b.s.Peer, .int .i64 c62b.s.Phase, .bool c62b.s.Leads, .int .u32 c62b.s.Seq, .ro 8 (c62b.s.Left.map THeader.c), .ro 8 (c62b.s.Got.map THeader.c), .int .i64 c62b.s.Last.MTU, .int .i64 c62b.s.Last.Options, .bool c62b.s.Last.Init, .bool c62b.s.Last.More, .bool c62b.s.Last.Master, .int .u32 c62b.s.Last.Seq, .ro 8 (c62b.s.Last.Heads.map THeader.c), .own 5 7 0 c62b.waits.length]), (5, .row 7 29 (c62b.waits.map TDesc.c))], 6⟩ (by omega) (Conv.keep [0, 1, 2, 6, 4, 7] [] [6, 7, 8, 9, 26, 27, 28] rfl rfl (viewE_cons rfl rfl (viewE_cons rfl rfl (viewE_cons rfl rfl (viewE_cons rfl rfl (viewE_cons rfl rfl (viewE_cons rfl rfl (viewE_cons rfl rfl viewE_nil))))))) rfl rfl) ⟨i28 + 1, c62a, c62b, (by omega), rfl, hL_15, rfl⟩
        ·rw [hb42]; try simp only [hb42, bb] at hL_15
         refine WK.condT rfl ?_
         refine WK.regx mixed ?_
         iterate 2 refine GX.m rfl ?_
         generalize hc56 : F34_exch_end_remind x8 y9 = c56 at hL_15
         rcases c56 with _ | c56
         ·try dsimp only at hL_15
          subst hL_15
          try dsimp only at hR
          cases hR
         try dsimp only at hL_15
         obtain ⟨c56a, c56b⟩ := c56; try dsimp only at hL_15
         refine GX.callx (r' := .tup []) (heap' := [(0, .box [.int .u32 0, .int .u32 0, .int .i64 0, .bool false, .int .u32 0, .nils, .nils, .int .i64 0, .int .i64 0, .bool false, .bool false, .bool false, .int .u32 0, .nils]), (1, .box [.int .u32 0, .int .u32 0, .int .i64 0, .bool false, .int .u32 0, .nils, .nils, .int .i64 0, .int .i64 0, .bool false, .bool false, .bool false, .int .u32 0, .nils]), (2, .box [.int .u32 c56a.s.Own, .int .u32 c56a.s.Peer, .int .i64 c56a.s.Phase, .bool c56a.s.Leads, .int .u32 c56a.s.Seq, .ro 8 (c56a.s.Left.map THeader.c), .ro 8 (c56a.s.Got.map THeader.c), .int .i64 c56a.s.Last.MTU, .int .i64 c56a.s.Last.Options, .bool c56a.s.Last.Init, .bool c56a.s.Last.More, .bool c56a.s.Last.Master, .int .u32 c56a.s.Last.Seq, .ro 8 (c56a.s.Last.Heads.map THeader.c), .own 6 7 0 c56a.waits.length]), (4, .box [.int .u32 c56b.s.Own, .int .u32 c56b.s.Peer, .int .i64 c56b.s.Phase, .bool c56b.s.Leads, .int .u32 c56b.s.Seq, .ro 8 (c56b.s.Left.map THeader.c), .ro 8 (c56b.s.Got.map THeader.c), .int .i64 c56b.s.Last.MTU, .int .i64 c56b.s.Last.Options, .bool c56b.s.Last.Init, .bool c56b.s.Last.More, .bool c56b.s.Last.Master, .int .u32 c56b.s.Last.Seq, .ro 8 (c56b.s.Last.Heads.map THeader.c), .own 7 7 0 c56b.waits.length]), (7, .row 7 29 (c56b.waits.map TDesc.c)), (6, .row 7 29 (c56a.waits.map TDesc.c))]) (next' := 8) [2, 4, 3, 5] [] rfl rfl rfl rfl rfl rfl (f34_ok x8 y9 _ hc56) (.inl rfl) rfl rfl rfl ?_
         refine GX.done ?_
         refine WK.nil (QF.normal (hK36 _ ?_))
         refine WK.nil (QF.normal (hK17 _ ?_))
         refine WK.regx mixed ?_
         refine GX.pure (v' := .int .i64 ((i28 + 1 : Nat) : Int)) rfl rfl rfl rfl (congrArg (PVal.int .i64) (wrap_up hlt15 hlen_15)) ?_
         refine GX.m rfl ?_
         refine GX.done ?_
         refine WK.nil (QF.normal ?_)
         exact hagain_15 _ (fates2.length - (i28 + 1)) ⟨[(6, .ptr 0 0), (7, .ptr 1 0), (8, .ptr 2 0), (9, .ptr 4 0), (26, .ro 1 (fates2.map c_i64)), (27, .int .i64 (fates2.length : Int)), (28, .int .i64 ((i28 + 1) : Int))], [(0, .box [.int .u32 0, .int .u32 0, .int .i64 0, .bool false, .int .u32 0, .nils, .nils, .int .i64 0, .int .i64 0, .bool false, .bool false, .bool false, .int .u32 0, .nils]), (1, .box [.int .u32 0, .int .u32 0, .int .i64 0, .bool false, .int .u32 0, .nils, .nils, .int .i64 0, .int .i64 0, .bool false, .bool false, .bool false, .int .u32 0, .nils]), (2, .box [.int .u32 c56a.s.Own, .int .u32 c56a.s.Peer, .int .i64 c56a.s.Phase, .bool c56a.s.Leads, .int .u32 c56a.s.Seq, .ro 8 (c56a.s.Left.map THeader.c), .ro 8 (c56a.s.Got.map THeader.c), .int .i64 c56a.s.Last.MTU, .int .i64 c56a.s.Last.Options, .bool c56a.s.Last.Init, .bool c56a.s.Last.More, .bool c56a.s.Last.Master, .int .u32 c56a.s.Last.Seq, .ro 8 (c56a.s.Last.Heads.map THeader.c), .own 3 7 0 c56a.waits.length]), (3, .row 7 29 (c56a.waits.map TDesc.c)), (4, .box [.int .u32 c56b.s.Own, .int .u32 c56b.s.Peer, .int .i64 c56b.s.Phase, .bool c56b.s.Leads, .int .u32 c56b.s.Seq, .ro 8 (c56b.s.Left.map THeader.c), .ro 8 (c56b.s.Got.map THeader.c), .int .i64 c56b.s.Last.MTU, .int .i64 c56b.s.Last.Options, .bool c56b.s.Last.Init, .bool c56b.s.Last.More, .bool c56b.s.Last.Master, .int .u32 c56b.s.Last.Seq, .ro 8 (c56b.s.Last.Heads.map THeader.c), .own 5 7 0 c56b.waits.length]), (5, .row 7 29 (c56b.waits.map TDesc.c))], 6⟩ (by omega) (Conv.keep [0, 1, 2, 6, 4, 7] [] [6, 7, 8, 9, 26, 27, 28] rfl rfl (viewE_cons rfl rfl (viewE_cons rfl rfl (viewE_cons rfl rfl (viewE_cons rfl rfl (viewE_cons rfl rfl (viewE_cons rfl rfl (viewE_cons rfl rfl viewE_nil))))))) rfl rfl) ⟨i28 + 1, c56a, c56b, (by omega), rfl, hL_15, rfl⟩
       ·rw [hb41]; try simp only [hb41, bb] at hL_15
        refine WK.condT rfl ?_
        refine WK.skip ?_
        refine WK.condT rfl ?_
        refine WK.regx mixed ?_
        iterate 2 refine GX.m rfl ?_
        generalize hc56 : F34_exch_end_remind x8 y9 = c56 at hL_15
        rcases c56 with _ | c56
        ·try dsimp only at hL_15
         subst hL_15
         try dsimp only at hR
         cases hR
        try dsimp only at hL_15
        obtain ⟨c56a, c56b⟩ := c56; try dsimp only at hL_15
        refine GX.callx (r' := .tup []) (heap' := [(0, .box [.int .u32 0, .int .u32 0, .int .i64 0, .bool false, .int .u32 0, .nils, .nils, .int .i64 0, .int .i64 0, .bool false, .bool false, .bool false, .int .u32 0, .nils]), (1, .box [.int .u32 0, .int .u32 0, .int .i64 0, .bool false, .int .u32 0, .nils, .nils, .int .i64 0, .int .i64 0, .bool false, .bool false, .bool false, .int .u32 0, .nils]), (2, .box [.int .u32 c56a.s.Own, .int .u32 c56a.s.Peer, .int .i64 c56a.s.Phase, .bool c56a.s.Leads, .int .u32 c56a.s.Seq, .ro 8 (c56a.s.Left.map THeader.c), .ro 8 (c56a.s.Got.map THeader.c), .int .i64 c56a.s.Last.MTU, .int .i64 c56a.s.Last.Options, .bool c56a.s.Last.Init, .bool c56a.s.Last.More, .bool c56a.s.Last.Master, .int .u32 c56a.s.Last.Seq, .ro 8 (c56a.s.Last.Heads.map THeader.c), .own 6 7 0 c56a.waits.length]), (4, .box [.int .u32 c56b.s.Own, .int .u32 c56b.s.Peer, .int .i64 c56b.s.Phase, .bool c56b.s.Leads, .int .u32 c56b.s.Seq, .ro 8 (c56b.s.Left.map THeader.c), .ro 8 (c56b.s.Got.map THeader.c), .int .i64 c56b.s.Last.MTU, .int .i64 c56b.s.Last.Options, .bool c56b.s.Last.Init, .bool c56b.s.Last.More, .bool c56b.s.Last.Master, .int .u32 c56b.s.Last.Seq, .ro 8 (c56b.s.Last.Heads.map THeader.c), .own 7 7 0 c56b.waits.length]), (7, .row 7 29 (c56b.waits.map TDesc.c)), (6, .row 7 29 (c56a.waits.map TDesc.c))]) (next' := 8) [2, 4, 3, 5] [] rfl rfl rfl rfl rfl rfl (f34_ok x8 y9 _ hc56) (.inl rfl) rfl rfl rfl ?_
        refine GX.done ?_
        refine WK.nil (QF.normal (hK36 _ ?_))
        refine WK.nil (QF.normal (hK17 _ ?_))
        refine WK.regx mixed ?_
        refine GX.pure (v' := .int .i64 ((i28 + 1 : Nat) : Int)) rfl rfl rfl rfl (congrArg (PVal.int .i64) (wrap_up hlt15 hlen_15)) ?_
        refine GX.m rfl ?_
        refine GX.done ?_
        refine WK.nil (QF.normal ?_)
        exact hagain_15 _ (fates2.length - (i28 + 1)) ⟨[(6, .ptr 0 0), (7, .ptr 1 0), (8, .ptr 2 0), (9, .ptr 4 0), (26, .ro 1 (fates2.map c_i64)), (27, .int .i64 (fates2.length : Int)), (28, .int .i64 ((i28 + 1) : Int))], [(0, .box [.int .u32 0, .int .u32 0, .int .i64 0, .bool false, .int .u32 0, .nils, .nils, .int .i64 0, .int .i64 0, .bool false, .bool false, .bool false, .int .u32 0, .nils]), (1, .box [.int .u32 0, .int .u32 0, .int .i64 0, .bool false, .int .u32 0, .nils, .nils, .int .i64 0, .int .i64 0, .bool false, .bool false, .bool false, .int .u32 0, .nils]), (2, .box [.int .u32 c56a.s.Own, .int .u32 c56a.s.Peer, .int .i64 c56a.s.Phase, .bool c56a.s.Leads, .int .u32 c56a.s.Seq, .ro 8 (c56a.s.Left.map THeader.c), .ro 8 (c56a.s.Got.map THeader.c), .int .i64 c56a.s.Last.MTU, .int .i64 c56a.s.Last.Options, .bool c56a.s.Last.Init, .bool c56a.s.Last.More, .bool c56a.s.Last.Master, .int .u32 c56a.s.Last.Seq, .ro 8 (c56a.s.Last.Heads.map THeader.c), .own 3 7 0 c56a.waits.length]), (3, .row 7 29 (c56a.waits.map TDesc.c)), (4, .box [.int .u32 c56b.s.Own, .int .u32 c56b.s.Peer, .int .i64 c56b.s.Phase, .bool c56b.s.Leads, .int .u32 c56b.s.Seq, .ro 8 (c56b.s.Left.map THeader.c), .ro 8 (c56b.s.Got.map THeader.c), .int .i64 c56b.s.Last.MTU, .int .i64 c56b.s.Last.Options, .bool c56b.s.Last.Init, .bool c56b.s.Last.More, .bool c56b.s.Last.Master, .int .u32 c56b.s.Last.Seq, .ro 8 (c56b.s.Last.Heads.map THeader.c), .own 5 7 0 c56b.waits.length]), (5, .row 7 29 (c56b.waits.map TDesc.c))], 6⟩ (by omega) (Conv.keep [0, 1, 2, 6, 4, 7] [] [6, 7, 8, 9, 26, 27, 28] rfl rfl (viewE_cons rfl rfl (viewE_cons rfl rfl (viewE_cons rfl rfl (viewE_cons rfl rfl (viewE_cons rfl rfl (viewE_cons rfl rfl (viewE_cons rfl rfl viewE_nil))))))) rfl rfl) ⟨i28 + 1, c56a, c56b, (by omega), rfl, hL_15, rfl⟩
      ·rw [hb40]; try simp only [hb40, bb] at hL_15
       refine WK.condT rfl ?_
       refine WK.regx mixed ?_
       refine GX.m rfl ?_
       generalize hc50 : F33_exch_end_next x8 false = c50 at hL_15
       rcases c50 with _ | c50
       ·try dsimp only at hL_15
        subst hL_15
        try dsimp only at hR
        cases hR
       try dsimp only at hL_15
       obtain ⟨c50a, c50b, c50c⟩ := c50; try dsimp only at hL_15
       refine GX.callx (r' := .tup [.agg (TDesc.c c50a), .bool c50b]) (heap' := [(0, .box [.int .u32 0, .int .u32 0, .int .i64 0, .bool false, .int .u32 0, .nils, .nils, .int .i64 0, .int .i64 0, .bool false, .bool false, .bool false, .int .u32 0, .nils]), (1, .box [.int .u32 0, .int .u32 0, .int .i64 0, .bool false, .int .u32 0, .nils, .nils, .int .i64 0, .int .i64 0, .bool false, .bool false, .bool false, .int .u32 0, .nils]), (2, .box [.int .u32 c50c.s.Own, .int .u32 c50c.s.Peer, .int .i64 c50c.s.Phase, .bool c50c.s.Leads, .int .u32 c50c.s.Seq, .ro 8 (c50c.s.Left.map THeader.c), .ro 8 (c50c.s.Got.map THeader.c), .int .i64 c50c.s.Last.MTU, .int .i64 c50c.s.Last.Options, .bool c50c.s.Last.Init, .bool c50c.s.Last.More, .bool c50c.s.Last.Master, .int .u32 c50c.s.Last.Seq, .ro 8 (c50c.s.Last.Heads.map THeader.c), .own 6 7 0 c50c.waits.length]), (4, .box [.int .u32 y9.s.Own, .int .u32 y9.s.Peer, .int .i64 y9.s.Phase, .bool y9.s.Leads, .int .u32 y9.s.Seq, .ro 8 (y9.s.Left.map THeader.c), .ro 8 (y9.s.Got.map THeader.c), .int .i64 y9.s.Last.MTU, .int .i64 y9.s.Last.Options, .bool y9.s.Last.Init, .bool y9.s.Last.More, .bool y9.s.Last.Master, .int .u32 y9.s.Last.Seq, .ro 8 (y9.s.Last.Heads.map THeader.c), .own 5 7 0 y9.waits.length]), (5, .row 7 29 (y9.waits.map TDesc.c)), (6, .row 7 29 (c50c.waits.map TDesc.c))]) (next' := 7) [2, 3] [] rfl rfl rfl rfl rfl rfl (f33_ok x8 false _ hc50) (.inl rfl) rfl rfl rfl ?_
       refine GX.done ?_
       refine WK.nil (QF.normal (hK36 _ ?_))
       refine WK.nil (QF.normal (hK17 _ ?_))
       refine WK.regx mixed ?_
       refine GX.pure (v' := .int .i64 ((i28 + 1 : Nat) : Int)) rfl rfl rfl rfl (congrArg (PVal.int .i64) (wrap_up hlt15 hlen_15)) ?_
       refine GX.m rfl ?_
       refine GX.done ?_
       refine WK.nil (QF.normal ?_)
       exact hagain_15 _ (fates2.length - (i28 + 1)) ⟨[(6, .ptr 0 0), (7, .ptr 1 0), (8, .ptr 2 0), (9, .ptr 4 0), (26, .ro 1 (fates2.map c_i64)), (27, .int .i64 (fates2.length : Int)), (28, .int .i64 ((i28 + 1) : Int))], [(0, .box [.int .u32 0, .int .u32 0, .int .i64 0, .bool false, .int .u32 0, .nils, .nils, .int .i64 0, .int .i64 0, .bool false, .bool false, .bool false, .int .u32 0, .nils]), (1, .box [.int .u32 0, .int .u32 0, .int .i64 0, .bool false, .int .u32 0, .nils, .nils, .int .i64 0, .int .i64 0, .bool false, .bool false, .bool false, .int .u32 0, .nils]), (2, .box [.int .u32 c50c.s.Own, .int .u32 c50c.s.Peer, .int .i64 c50c.s.Phase, .bool c50c.s.Leads, .int .u32 c50c.s.Seq, .ro 8 (c50c.s.Left.map THeader.c), .ro 8 (c50c.s.Got.map THeader.c), .int .i64 c50c.s.Last.MTU, .int .i64 c50c.s.Last.Options, .bool c50c.s.Last.Init, .bool c50c.s.Last.More, .bool c50c.s.Last.Master, .int .u32 c50c.s.Last.Seq, .ro 8 (c50c.s.Last.Heads.map THeader.c), .own 3 7 0 c50c.waits.length]), (3, .row 7 29 (c50c.waits.map TDesc.c)), (4, .box [.int .u32 y9.s.Own, .int .u32 y9.s.Peer, .int .i64 y9.s.Phase, .bool y9.s.Leads, .int .u32 y9.s.Seq, .ro 8 (y9.s.Left.map THeader.c), .ro 8 (y9.s.Got.map THeader.c), .int .i64 y9.s.Last.MTU, .int .i64 y9.s.Last.Options, .bool y9.s.Last.Init, .bool y9.s.Last.More, .bool y9.s.Last.Master, .int .u32 y9.s.Last.Seq, .ro 8 (y9.s.Last.Heads.map THeader.c), .own 5 7 0 y9.waits.length]), (5, .row 7 29 (y9.waits.map TDesc.c))], 6⟩ (by omega) (Conv.keep [0, 1, 2, 6, 4, 5] [] [6, 7, 8, 9, 26, 27, 28] rfl rfl (viewE_cons rfl rfl (viewE_cons rfl rfl (viewE_cons rfl rfl (viewE_cons rfl rfl (viewE_cons rfl rfl (viewE_cons rfl rfl (viewE_cons rfl rfl viewE_nil))))))) rfl rfl) ⟨i28 + 1, c50c, y9, (by omega), rfl, hL_15, rfl⟩
     ·rw [hb39]; try simp only [hb39, bb] at hL_15
      refine WK.condT rfl ?_
      refine WK.skip ?_
      refine WK.condT rfl ?_
      refine WK.regx mixed ?_
      refine GX.m rfl ?_
      generalize hc50 : F33_exch_end_next x8 false = c50 at hL_15
      rcases c50 with _ | c50
      ·try dsimp only at hL_15
       subst hL_15
       try dsimp only at hR
       cases hR
      try dsimp only at hL_15
      obtain ⟨c50a, c50b, c50c⟩ := c50; try dsimp only at hL_15
      refine GX.callx (r' := .tup [.agg (TDesc.c c50a), .bool c50b]) (heap' := [(0, .box [.int .u32 0, .int .u32 0, .int .i64 0, .bool false, .int .u32 0, .nils, .nils, .int .i64 0, .int .i64 0, .bool false, .bool false, .bool false, .int .u32 0, .nils]), (1, .box [.int .u32 0, .int .u32 0, .int .i64 0, .bool false, .int .u32 0, .nils, .nils, .int .i64 0, .int .i64 0, .bool false, .bool false, .bool false, .int .u32 0, .nils]), (2, .box [.int .u32 c50c.s.Own, .int .u32 c50c.s.Peer, .int .i64 c50c.s.Phase, .bool c50c.s.Leads, .int .u32 c50c.s.Seq, .ro 8 (c50c.s.Left.map THeader.c), .ro 8 (c50c.s.Got.map THeader.c), .int .i64 c50c.s.Last.MTU, .int .i64 c50c.s.Last.Options, .bool c50c.s.Last.Init, .bool c50c.s.Last.More, .bool c50c.s.Last.Master, .int .u32 c50c.s.Last.Seq, .ro 8 (c50c.s.Last.Heads.map THeader.c), .own 6 7 0 c50c.waits.length]), (4, .box [.int .u32 y9.s.Own, .int .u32 y9.s.Peer, .int .i64 y9.s.Phase, .bool y9.s.Leads, .int .u32 y9.s.Seq, .ro 8 (y9.s.Left.map THeader.c), .ro 8 (y9.s.Got.map THeader.c), .int .i64 y9.s.Last.MTU, .int .i64 y9.s.Last.Options, .bool y9.s.Last.Init, .bool y9.s.Last.More, .bool y9.s.Last.Master, .int .u32 y9.s.Last.Seq, .ro 8 (y9.s.Last.Heads.map THeader.c), .own 5 7 0 y9.waits.length]), (5, .row 7 29 (y9.waits.map TDesc.c)), (6, .row 7 29 (c50c.waits.map TDesc.c))]) (next' := 7) [2, 3] [] rfl rfl rfl rfl rfl rfl (f33_ok x8 false _ hc50) (.inl rfl) rfl rfl rfl ?_
      refine GX.done ?_
      refine WK.nil (QF.normal (hK36 _ ?_))
      refine WK.nil (QF.normal (hK17 _ ?_))
      refine WK.regx mixed ?_
      refine GX.pure (v' := .int .i64 ((i28 + 1 : Nat) : Int)) rfl rfl rfl rfl (congrArg (PVal.int .i64) (wrap_up hlt15 hlen_15)) ?_
      refine GX.m rfl ?_
      refine GX.done ?_
      refine WK.nil (QF.normal ?_)
      exact hagain_15 _ (fates2.length - (i28 + 1)) ⟨[(6, .ptr 0 0), (7, .ptr 1 0), (8, .ptr 2 0), (9, .ptr 4 0), (26, .ro 1 (fates2.map c_i64)), (27, .int .i64 (fates2.length : Int)), (28, .int .i64 ((i28 + 1) : Int))], [(0, .box [.int .u32 0, .int .u32 0, .int .i64 0, .bool false, .int .u32 0, .nils, .nils, .int .i64 0, .int .i64 0, .bool false, .bool false, .bool false, .int .u32 0, .nils]), (1, .box [.int .u32 0, .int .u32 0, .int .i64 0, .bool false, .int .u32 0, .nils, .nils, .int .i64 0, .int .i64 0, .bool false, .bool false, .bool false, .int .u32 0, .nils]), (2, .box [.int .u32 c50c.s.Own, .int .u32 c50c.s.Peer, .int .i64 c50c.s.Phase, .bool c50c.s.Leads, .int .u32 c50c.s.Seq, .ro 8 (c50c.s.Left.map THeader.c), .ro 8 (c50c.s.Got.map THeader.c), .int .i64 c50c.s.Last.MTU, .int .i64 c50c.s.Last.Options, .bool c50c.s.Last.Init, .bool c50c.s.Last.More, .bool c50c.s.Last.Master, .int .u32 c50c.s.Last.Seq, .ro 8 (c50c.s.Last.Heads.map THeader.c), .own 3 7 0 c50c.waits.length]), (3, .row 7 29 (c50c.waits.map TDesc.c)), (4, .box [.int .u32 y9.s.Own, .int .u32 y9.s.Peer, .int .i64 y9.s.Phase, .bool y9.s.Leads, .int .u32 y9.s.Seq, .ro 8 (y9.s.Left.map THeader.c), .ro 8 (y9.s.Got.map THeader.c), .int .i64 y9.s.Last.MTU, .int .i64 y9.s.Last.Options, .bool y9.s.Last.Init, .bool y9.s.Last.More, .bool y9.s.Last.Master, .int .u32 y9.s.Last.Seq, .ro 8 (y9.s.Last.Heads.map THeader.c), .own 5 7 0 y9.waits.length]), (5, .row 7 29 (y9.waits.map TDesc.c))], 6⟩ (by omega) (Conv.keep [0, 1, 2, 6, 4, 5] [] [6, 7, 8, 9, 26, 27, 28] rfl rfl (viewE_cons rfl rfl (viewE_cons rfl rfl (viewE_cons rfl rfl (viewE_cons rfl rfl (viewE_cons rfl rfl (viewE_cons rfl rfl (viewE_cons rfl rfl viewE_nil))))))) rfl rfl) ⟨i28 + 1, c50c, y9, (by omega), rfl, hL_15, rfl⟩
    ·rw [hb38]; try simp only [hb38, bb] at hL_15
     refine WK.condT rfl ?_
     refine WK.regx mixed ?_
     iterate 2 refine GX.m rfl ?_
     generalize hc45 : F32_exch_end_hear x8 y9 false = c45 at hL_15
     rcases c45 with _ | c45
     ·try dsimp only at hL_15
      subst hL_15
      try dsimp only at hR
      cases hR
     try dsimp only at hL_15
     obtain ⟨c45a, c45b⟩ := c45; try dsimp only at hL_15
     refine GX.callx (r' := .tup []) (heap' := [(0, .box [.int .u32 0, .int .u32 0, .int .i64 0, .bool false, .int .u32 0, .nils, .nils, .int .i64 0, .int .i64 0, .bool false, .bool false, .bool false, .int .u32 0, .nils]), (1, .box [.int .u32 0, .int .u32 0, .int .i64 0, .bool false, .int .u32 0, .nils, .nils, .int .i64 0, .int .i64 0, .bool false, .bool false, .bool false, .int .u32 0, .nils]), (2, .box [.int .u32 c45a.s.Own, .int .u32 c45a.s.Peer, .int .i64 c45a.s.Phase, .bool c45a.s.Leads, .int .u32 c45a.s.Seq, .ro 8 (c45a.s.Left.map THeader.c), .ro 8 (c45a.s.Got.map THeader.c), .int .i64 c45a.s.Last.MTU, .int .i64 c45a.s.Last.Options, .bool c45a.s.Last.Init, .bool c45a.s.Last.More, .bool c45a.s.Last.Master, .int .u32 c45a.s.Last.Seq, .ro 8 (c45a.s.Last.Heads.map THeader.c), .own 6 7 0 c45a.waits.length]), (4, .box [.int .u32 c45b.s.Own, .int .u32 c45b.s.Peer, .int .i64 c45b.s.Phase, .bool c45b.s.Leads, .int .u32 c45b.s.Seq, .ro 8 (c45b.s.Left.map THeader.c), .ro 8 (c45b.s.Got.map THeader.c), .int .i64 c45b.s.Last.MTU, .int .i64 c45b.s.Last.Options, .bool c45b.s.Last.Init, .bool c45b.s.Last.More, .bool c45b.s.Last.Master, .int .u32 c45b.s.Last.Seq, .ro 8 (c45b.s.Last.Heads.map THeader.c), .own 7 7 0 c45b.waits.length]), (7, .row 7 29 (c45b.waits.map TDesc.c)), (6, .row 7 29 (c45a.waits.map TDesc.c))]) (next' := 8) [2, 4, 3, 5] [] rfl rfl rfl rfl rfl rfl (f32_ok x8 y9 false _ hc45) (.inl rfl) rfl rfl rfl ?_
     refine GX.done ?_
     refine WK.nil (QF.normal (hK36 _ ?_))
     refine WK.nil (QF.normal (hK17 _ ?_))
     refine WK.regx mixed ?_
     refine GX.pure (v' := .int .i64 ((i28 + 1 : Nat) : Int)) rfl rfl rfl rfl (congrArg (PVal.int .i64) (wrap_up hlt15 hlen_15)) ?_
     refine GX.m rfl ?_
     refine GX.done ?_
     refine WK.nil (QF.normal ?_)
     exact hagain_15 _ (fates2.length - (i28 + 1)) ⟨[(6, .ptr 0 0), (7, .ptr 1 0), (8, .ptr 2 0), (9, .ptr 4 0), (26, .ro 1 (fates2.map c_i64)), (27, .int .i64 (fates2.length : Int)), (28, .int .i64 ((i28 + 1) : Int))], [(0, .box [.int .u32 0, .int .u32 0, .int .i64 0, .bool false, .int .u32 0, .nils, .nils, .int .i64 0, .int .i64 0, .bool false, .bool false, .bool false, .int .u32 0, .nils]), (1, .box [.int .u32 0, .int .u32 0, .int .i64 0, .bool false, .int .u32 0, .nils, .nils, .int .i64 0, .int .i64 0, .bool false, .bool false, .bool false, .int .u32 0, .nils]), (2, .box [.int .u32 c45a.s.Own, .int .u32 c45a.s.Peer, .int .i64 c45a.s.Phase, .bool c45a.s.Leads, .int .u32 c45a.s.Seq, .ro 8 (c45a.s.Left.map THeader.c), .ro 8 (c45a.s.Got.map THeader.c), .int .i64 c45a.s.Last.MTU, .int .i64 c45a.s.Last.Options, .bool c45a.s.Last.Init, .bool c45a.s.Last.More, .bool c45a.s.Last.Master, .int .u32 c45a.s.Last.Seq, .ro 8 (c45a.s.Last.Heads.map THeader.c), .own 3 7 0 c45a.waits.length]), (3, .row 7 29 (c45a.waits.map TDesc.c)), (4, .box [.int .u32 c45b.s.Own, .int .u32 c45b.s.Peer, .int .i64 c45b.s.Phase, .bool c45b.s.Leads, .int .u32 c45b.s.Seq, .ro 8 (c45b.s.Left.map THeader.c), .ro 8 (c45b.s.Got.map THeader.c), .int .i64 c45b.s.Last.MTU, .int .i64 c45b.s.Last.Options, .bool c45b.s.Last.Init, .bool c45b.s.Last.More, .bool c45b.s.Last.Master, .int .u32 c45b.s.Last.Seq, .ro 8 (c45b.s.Last.Heads.map THeader.c), .own 5 7 0 c45b.waits.length]), (5, .row 7 29 (c45b.waits.map TDesc.c))], 6⟩ (by omega) (Conv.keep [0, 1, 2, 6, 4, 7] [] [6, 7, 8, 9, 26, 27, 28] rfl rfl (viewE_cons rfl rfl (viewE_cons rfl rfl (viewE_cons rfl rfl (viewE_cons rfl rfl (viewE_cons rfl rfl (viewE_cons rfl rfl (viewE_cons rfl rfl viewE_nil))))))) rfl rfl) ⟨i28 + 1, c45a, c45b, (by omega), rfl, hL_15, rfl⟩
   ·rw [hb37]; try simp only [hb37, bb] at hL_15
    refine WK.condT rfl ?_
    refine WK.skip ?_
    refine WK.condT rfl ?_
    refine WK.regx mixed ?_
    iterate 2 refine GX.m rfl ?_
    generalize hc45 : F32_exch_end_hear x8 y9 false = c45 at hL_15
    rcases c45 with _ | c45
    ·try dsimp only at hL_15
     subst hL_15
     try dsimp only at hR
     cases hR
    try dsimp only at hL_15
    obtain ⟨c45a, c45b⟩ := c45; try dsimp only at hL_15
    refine GX.callx (r' := .tup []) (heap' := [(0, .box [.int .u32 0, .int .u32 0, .int .i64 0, .bool false, .int .u32 0, .nils, .nils, .int .i64 0, .int .i64 0, .bool false, .bool false, .bool false, .int .u32 0, .nils]), (1, .box [.int .u32 0, .int .u32 0, .int .i64 0, .bool false, .int .u32 0, .nils, .nils, .int .i64 0, .int .i64 0, .bool false, .bool false, .bool false, .int .u32 0, .nils]), (2, .box [.int .u32 c45a.s.Own, .int .u32 c45a.s.Peer, .int .i64 c45a.s.Phase, .bool c45a.s.Leads, .int .u32 c45a.s.Seq, .ro 8 (c45a.s.Left.map THeader.c), .ro 8 (c45a.s.Got.map THeader.c), .int .i64 c45a.s.Last.MTU, .int .i64 c45a.s.Last.Options, .bool c45a.s.Last.Init, .bool c45a.s.Last.More, .bool c45a.s.Last.Master, .int .u32 c45a.s.Last.Seq, .ro 8 (c45a.s.Last.Heads.map THeader.c), .own 6 7 0 c45a.waits.length]), (4, .box [.int .u32 c45b.s.Own, .int .u32 c45b.s.Peer, .int .i64 c45b.s.Phase, .bool c45b.s.Leads, .int .u32 c45b.s.Seq, .ro 8 (c45b.s.Left.map THeader.c), .ro 8 (c45b.s.Got.map THeader.c), .int .i64 c45b.s.Last.MTU, .int .i64 c45b.s.Last.Options, .bool c45b.s.Last.Init, .bool c45b.s.Last.More, .bool c45b.s.Last.Master, .int .u32 c45b.s.Last.Seq, .ro 8 (c45b.s.Last.Heads.map THeader.c), .own 7 7 0 c45b.waits.length]), (7, .row 7 29 (c45b.waits.map TDesc.c)), (6, .row 7 29 (c45a.waits.map TDesc.c))]) (next' := 8) [2, 4, 3, 5] [] rfl rfl rfl rfl rfl rfl (f32_ok x8 y9 false _ hc45) (.inl rfl) rfl rfl rfl ?_
    refine GX.done ?_
    refine WK.nil (QF.normal (hK36 _ ?_))
    refine WK.nil (QF.normal (hK17 _ ?_))
    refine WK.regx mixed ?_
    refine GX.pure (v' := .int .i64 ((i28 + 1 : Nat) : Int)) rfl rfl rfl rfl (congrArg (PVal.int .i64) (wrap_up hlt15 hlen_15)) ?_
    refine GX.m rfl ?_
    refine GX.done ?_
    refine WK.nil (QF.normal ?_)
    exact hagain_15 _ (fates2.length - (i28 + 1)) ⟨[(6, .ptr 0 0), (7, .ptr 1 0), (8, .ptr 2 0), (9, .ptr 4 0), (26, .ro 1 (fates2.map c_i64)), (27, .int .i64 (fates2.length : Int)), (28, .int .i64 ((i28 + 1) : Int))], [(0, .box [.int .u32 0, .int .u32 0, .int .i64 0, .bool false, .int .u32 0, .nils, .nils, .int .i64 0, .int .i64 0, .bool false, .bool false, .bool false, .int .u32 0, .nils]), (1, .box [.int .u32 0, .int .u32 0, .int .i64 0, .bool false, .int .u32 0, .nils, .nils, .int .i64 0, .int .i64 0, .bool false, .bool false, .bool false, .int .u32 0, .nils]), (2, .box [.int .u32 c45a.s.Own, .int .u32 c45a.s.Peer, .int .i64 c45a.s.Phase, .bool c45a.s.Leads, .int .u32 c45a.s.Seq, .ro 8 (c45a.s.Left.map THeader.c), .ro 8 (c45a.s.Got.map THeader.c), .int .i64 c45a.s.Last.MTU, .int .i64 c45a.s.Last.Options, .bool c45a.s.Last.Init, .bool c45a.s.Last.More, .bool c45a.s.Last.Master, .int .u32 c45a.s.Last.Seq, .ro 8 (c45a.s.Last.Heads.map THeader.c), .own 3 7 0 c45a.waits.length]), (3, .row 7 29 (c45a.waits.map TDesc.c)), (4, .box [.int .u32 c45b.s.Own, .int .u32 c45b.s.Peer, .int .i64 c45b.s.Phase, .bool c45b.s.Leads, .int .u32 c45b.s.Seq, .ro 8 (c45b.s.Left.map THeader.c), .ro 8 (c45b.s.Got.map THeader.c), .int .i64 c45b.s.Last.MTU, .int .i64 c45b.s.Last.Options, .bool c45b.s.Last.Init, .bool c45b.s.Last.More, .bool c45b.s.Last.Master, .int .u32 c45b.s.Last.Seq, .ro 8 (c45b.s.Last.Heads.map THeader.c), .own 5 7 0 c45b.waits.length]), (5, .row 7 29 (c45b.waits.map TDesc.c))], 6⟩ (by omega) (Conv.keep [0, 1, 2, 6, 4, 7] [] [6, 7, 8, 9, 26, 27, 28] rfl rfl (viewE_cons rfl rfl (viewE_cons rfl rfl (viewE_cons rfl rfl (viewE_cons rfl rfl (viewE_cons rfl rfl (viewE_cons rfl rfl (viewE_cons rfl rfl viewE_nil))))))) rfl rfl) ⟨i28 + 1, c45a, c45b, (by omega), rfl, hL_15, rfl⟩

theorem f6_ok (a0 : TStart) (b1 : TStart) (R : Bool) (hR : F6_crossroadslaw17_ExchDone a0 b1 = some R) : FnOk Try.prog 6 [.agg (TStart.c a0), .agg (TStart.c b1)] [] 0 (.bool R) [] 0 := by
 refine FnOk.wk i6 rfl rfl ?_
 unfold F6_crossroadslaw17_ExchDone at hR
 try dsimp only at hR
 change WK _ _ _ [ac6] _ ⟨[(0, .agg (TStart.c a0)), (1, .agg (TStart.c b1))], [], 0⟩
 unfold ac6
 refine WK.sr mixed ?_
 refine GX.step (v' := .ptr 0 0) (heap' := [(0, .box (TStart.c a0))]) (next' := 1) rfl rfl rfl rfl rfl rfl rfl ?_
 refine GX.step (v' := .ptr 1 0) (heap' := [(0, .box (TStart.c a0)), (1, .box (TStart.c b1))]) (next' := 2) rfl rfl rfl rfl rfl rfl rfl ?_
 refine GX.m rfl ?_
 refine GX.done ?_
 refine WK.seq ?_
 refine WK.sr mixed ?_
 refine GX.q (.ptr 0 3) ?_
 refine GX.q (.ro 8 (a0.Heads.map THeader.c)) ?_
 refine GX.pure (v' := .int .i64 (a0.Heads.length : Int)) rfl rfl rfl rfl (len_map _ _) ?_
 refine GX.q (.bool (decide (120 < (a0.Heads.length : Int)))) ?_
 refine GX.m rfl ?_
 rcases bool_two (decide (120 < (a0.Heads.length : Int))) with hb1 | hb1
 ·rw [hb1]; first | replace hR := cond_f hb1 hR | (try simp only [hb1, bb] at hR)
  refine GX.q (.ptr 1 3) ?_
  refine GX.q (.ro 8 (b1.Heads.map THeader.c)) ?_
  refine GX.pure (v' := .int .i64 (b1.Heads.length : Int)) rfl rfl rfl rfl (len_map _ _) ?_
  iterate 2 refine GX.q (.bool (decide (120 < (b1.Heads.length : Int)))) ?_
  refine GX.m rfl ?_
  rcases bool_two (decide (120 < (b1.Heads.length : Int))) with hb2 | hb2
  ·rw [hb2]; first | replace hR := cond_f hb2 hR | (try simp only [hb2, bb] at hR)
   refine GX.q (.ptr 0 0) ?_
   refine GX.q (.int .u32 a0.Own) ?_
   refine GX.q (.ptr 1 0) ?_
   refine GX.q (.int .u32 b1.Own) ?_
   iterate 2 refine GX.q (.bool (decide (a0.Own = b1.Own))) ?_
   refine GX.done ?_
   rcases bool_two (decide (a0.Own = b1.Own)) with hb3 | hb3
   ·rw [hb3]; first | replace hR := cond_f hb3 hR | (try simp only [hb3, bb] at hR)
    refine WK.condF rfl ?_
    refine WK.skip ?_
    refine WK.sr mixed ?_
    refine GX.q (.ptr 0 0) ?_
    refine GX.q (.int .u32 a0.Own) ?_
    refine GX.q (.ptr 1 0) ?_
    refine GX.q (.int .u32 b1.Own) ?_
    refine GX.q (.ptr 0 2) ?_
    refine GX.q (.int .u32 a0.Seq) ?_
    refine GX.q (.ptr 0 3) ?_
    refine GX.q (.ro 8 (a0.Heads.map THeader.c)) ?_
    generalize hc40 : F9_exch_Open a0.Own b1.Own a0.Seq a0.Heads = c40 at hR
    rcases c40 with _ | c40
    ·try dsimp only at hR
     cases hR
    try dsimp only at hR
    obtain ⟨c40a, c40b⟩ := c40; try dsimp only at hR
    refine GX.callp (r := .tup [.agg [.int .u32 c40a.Own, .int .u32 c40a.Peer, .int .i64 c40a.Phase, .bool c40a.Leads, .int .u32 c40a.Seq, .ro 8 (c40a.Left.map THeader.c), .ro 8 (c40a.Got.map THeader.c), .int .i64 c40a.Last.MTU, .int .i64 c40a.Last.Options, .bool c40a.Last.Init, .bool c40a.Last.More, .bool c40a.Last.Master, .int .u32 c40a.Last.Seq, .ro 8 (c40a.Last.Heads.map THeader.c)], .agg [.int .i64 c40b.MTU, .int .i64 c40b.Options, .bool c40b.Init, .bool c40b.More, .bool c40b.Master, .int .u32 c40b.Seq, .ro 8 (c40b.Heads.map THeader.c)]]) rfl rfl rfl (f9_ok a0.Own b1.Own a0.Seq a0.Heads _ hc40) rfl rfl ?_
    refine GX.m rfl ?_
    refine GX.q (.agg [.int .u32 c40a.Own, .int .u32 c40a.Peer, .int .i64 c40a.Phase, .bool c40a.Leads, .int .u32 c40a.Seq, .ro 8 (c40a.Left.map THeader.c), .ro 8 (c40a.Got.map THeader.c), .int .i64 c40a.Last.MTU, .int .i64 c40a.Last.Options, .bool c40a.Last.Init, .bool c40a.Last.More, .bool c40a.Last.Master, .int .u32 c40a.Last.Seq, .ro 8 (c40a.Last.Heads.map THeader.c)]) ?_
    refine GX.q (.agg [.int .i64 c40b.MTU, .int .i64 c40b.Options, .bool c40b.Init, .bool c40b.More, .bool c40b.Master, .int .u32 c40b.Seq, .ro 8 (c40b.Heads.map THeader.c)]) ?_
    refine GX.step (v' := .ptr 2 0) (heap' := [(0, .box (TStart.c a0)), (1, .box (TStart.c b1)), (2, .box [.int .u32 0, .int .u32 0, .int .i64 0, .bool false, .int .u32 0, .nils, .nils, .int .i64 0, .int .i64 0, .bool false, .bool false, .bool false, .int .u32 0, .nils])]) (next' := 3) rfl rfl rfl rfl rfl rfl rfl ?_
    refine GX.step (v' := .ptr 3 0) (heap' := [(0, .box (TStart.c a0)), (1, .box (TStart.c b1)), (2, .box [.int .u32 0, .int .u32 0, .int .i64 0, .bool false, .int .u32 0, .nils, .nils, .int .i64 0, .int .i64 0, .bool false, .bool false, .bool false, .int .u32 0, .nils]), (3, .box [.int .i64 0, .int .i64 0, .bool false, .bool false, .bool false, .int .u32 0, .nils])]) (next' := 4) rfl rfl rfl rfl rfl rfl rfl ?_
    refine GX.step0 (heap' := [(0, .box (TStart.c a0)), (1, .box (TStart.c b1)), (2, .box (TSession.c c40a)), (3, .box [.int .i64 0, .int .i64 0, .bool false, .bool false, .bool false, .int .u32 0, .nils])]) (next' := 4) rfl rfl rfl rfl rfl ?_
    refine GX.step0 (heap' := [(0, .box (TStart.c a0)), (1, .box (TStart.c b1)), (2, .box (TSession.c c40a)), (3, .box (TDesc.c c40b))]) (next' := 4) rfl rfl rfl rfl rfl ?_
    refine GX.done ?_
    refine WK.sr mixed ?_
    refine GX.q (.ptr 1 0) ?_
    refine GX.q (.int .u32 b1.Own) ?_
    refine GX.q (.ptr 0 0) ?_
    refine GX.q (.int .u32 a0.Own) ?_
    refine GX.q (.ptr 1 2) ?_
    refine GX.q (.int .u32 b1.Seq) ?_
    refine GX.q (.ptr 1 3) ?_
    refine GX.q (.ro 8 (b1.Heads.map THeader.c)) ?_
    generalize hc52 : F9_exch_Open b1.Own a0.Own b1.Seq b1.Heads = c52 at hR
    rcases c52 with _ | c52
    ·try dsimp only at hR
     cases hR
    try dsimp only at hR
    obtain ⟨c52a, c52b⟩ := c52; try dsimp only at hR
    refine GX.callp (r := .tup [.agg [.int .u32 c52a.Own, .int .u32 c52a.Peer, .int .i64 c52a.Phase, .bool c52a.Leads, .int .u32 c52a.Seq, .ro 8 (c52a.Left.map THeader.c), .ro 8 (c52a.Got.map THeader.c), .int .i64 c52a.Last.MTU, .int .i64 c52a.Last.Options, .bool c52a.Last.Init, .bool c52a.Last.More, .bool c52a.Last.Master, .int .u32 c52a.Last.Seq, .ro 8 (c52a.Last.Heads.map THeader.c)], .agg [.int .i64 c52b.MTU, .int .i64 c52b.Options, .bool c52b.Init, .bool c52b.More, .bool c52b.Master, .int .u32 c52b.Seq, .ro 8 (c52b.Heads.map THeader.c)]]) rfl rfl rfl (f9_ok b1.Own a0.Own b1.Seq b1.Heads _ hc52) rfl rfl ?_
    refine GX.m rfl ?_
    refine GX.q (.agg [.int .u32 c52a.Own, .int .u32 c52a.Peer, .int .i64 c52a.Phase, .bool c52a.Leads, .int .u32 c52a.Seq, .ro 8 (c52a.Left.map THeader.c), .ro 8 (c52a.Got.map THeader.c), .int .i64 c52a.Last.MTU, .int .i64 c52a.Last.Options, .bool c52a.Last.Init, .bool c52a.Last.More, .bool c52a.Last.Master, .int .u32 c52a.Last.Seq, .ro 8 (c52a.Last.Heads.map THeader.c)]) ?_
    refine GX.q (.agg [.int .i64 c52b.MTU, .int .i64 c52b.Options, .bool c52b.Init, .bool c52b.More, .bool c52b.Master, .int .u32 c52b.Seq, .ro 8 (c52b.Heads.map THeader.c)]) ?_
    refine GX.step (v' := .ptr 4 0) (heap' := [(0, .box (TStart.c a0)), (1, .box (TStart.c b1)), (2, .box (TSession.c c40a)), (3, .box (TDesc.c c40b)), (4, .box [.int .u32 0, .int .u32 0, .int .i64 0, .bool false, .int .u32 0, .nils, .nils, .int .i64 0, .int .i64 0, .bool false, .bool false, .bool false, .int .u32 0, .nils])]) (next' := 5) rfl rfl rfl rfl rfl rfl rfl ?_
    refine GX.step (v' := .ptr 5 0) (heap' := [(0, .box (TStart.c a0)), (1, .box (TStart.c b1)), (2, .box (TSession.c c40a)), (3, .box (TDesc.c c40b)), (4, .box [.int .u32 0, .int .u32 0, .int .i64 0, .bool false, .int .u32 0, .nils, .nils, .int .i64 0, .int .i64 0, .bool false, .bool false, .bool false, .int .u32 0, .nils]), (5, .box [.int .i64 0, .int .i64 0, .bool false, .bool false, .bool false, .int .u32 0, .nils])]) (next' := 6) rfl rfl rfl rfl rfl rfl rfl ?_
    refine GX.step0 (heap' := [(0, .box (TStart.c a0)), (1, .box (TStart.c b1)), (2, .box (TSession.c c40a)), (3, .box (TDesc.c c40b)), (4, .box (TSession.c c52a)), (5, .box [.int .i64 0, .int .i64 0, .bool false, .bool false, .bool false, .int .u32 0, .nils])]) (next' := 6) rfl rfl rfl rfl rfl ?_
    refine GX.step0 (heap' := [(0, .box (TStart.c a0)), (1, .box (TStart.c b1)), (2, .box (TSession.c c40a)), (3, .box (TDesc.c c40b)), (4, .box (TSession.c c52a)), (5, .box (TDesc.c c52b))]) (next' := 6) rfl rfl rfl rfl rfl ?_
    refine GX.done ?_
    refine WK.sr mixed ?_
    refine GX.step (v' := .own 6 1 0 (([] : List Int)).length) (heap' := [(0, .box (TStart.c a0)), (1, .box (TStart.c b1)), (2, .box (TSession.c c40a)), (3, .box (TDesc.c c40b)), (4, .box (TSession.c c52a)), (5, .box (TDesc.c c52b)), (6, .row 1 3 (([] : List Int).map c_i64))]) (next' := 7) rfl rfl rfl rfl rfl rfl rfl ?_
    refine GX.m rfl ?_
    refine GX.done ?_
    refine WK.seq ?_
    refine WK.sr mixed ?_
    refine GX.m rfl ?_
    refine GX.done ?_
    generalize hZ_9 : F6_crossroadslaw17_ExchDone_l1 a0 b1 (fuelUp 0 (IntKind.i64.wrap ((IntKind.i64.wrap (Int.tdiv (max_ (a0.Heads.length : Int) (b1.Heads.length : Int)) 10)) + 5))) ([] : List Int) 0 = Z_9 at hR
    refine WK.forK (fun k s => ∃ (i10 : Int) (fates9 : List Int), fuelUp i10 (IntKind.i64.wrap ((IntKind.i64.wrap (Int.tdiv (max_ (a0.Heads.length : Int) (b1.Heads.length : Int)) 10)) + 5)) ≤ k ∧ 0 ≤ i10 ∧ F6_crossroadslaw17_ExchDone_l1 a0 b1 k fates9 i10 = Z_9 ∧ s = ⟨[(2, .ptr 0 0), (3, .ptr 1 0), (5, .ptr 2 0), (7, .ptr 3 0), (9, .own 4 1 0 fates9.length), (10, .int .i64 i10)], [(0, .box (TStart.c a0)), (1, .box (TStart.c b1)), (2, .box (TSession.c c40a)), (3, .box (TSession.c c52a)), (4, .row 1 3 (fates9.map c_i64))], 5⟩) (fuelUp 0 (IntKind.i64.wrap ((IntKind.i64.wrap (Int.tdiv (max_ (a0.Heads.length : Int) (b1.Heads.length : Int)) 10)) + 5))) ⟨⟨[(2, .ptr 0 0), (3, .ptr 1 0), (5, .ptr 2 0), (7, .ptr 3 0), (9, .own 4 1 0 ([] : List Int).length), (10, .int .i64 0)], [(0, .box (TStart.c a0)), (1, .box (TStart.c b1)), (2, .box (TSession.c c40a)), (3, .box (TSession.c c52a)), (4, .row 1 3 (([] : List Int).map c_i64))], 5⟩, Conv.keep [0, 1, 2, 4, 6] [] [2, 3, 5, 7, 9, 10] rfl rfl (viewE_cons rfl rfl (viewE_cons rfl rfl (viewE_cons rfl rfl (viewE_cons rfl rfl (viewE_cons rfl rfl (viewE_cons rfl rfl viewE_nil)))))) rfl rfl, 0, ([] : List Int), Nat.le_refl _, (by omega), hZ_9, rfl⟩ ?_
    rintro k9 _ ⟨i10, fates9, hfu9, hinv9_c0, hL_9, rfl⟩ again_9 out_9 Q_9 hagain_9 hout_9 hQ_9
    refine WK.seq ?_
    refine WK.sr mixed ?_
    refine GX.m rfl ?_
    refine GX.q (.ptr 0 3) ?_
    refine GX.q (.ro 8 (a0.Heads.map THeader.c)) ?_
    refine GX.pure (v' := .int .i64 (a0.Heads.length : Int)) rfl rfl rfl rfl (len_map _ _) ?_
    refine GX.q (.ptr 1 3) ?_
    refine GX.q (.ro 8 (b1.Heads.map THeader.c)) ?_
    refine GX.pure (v' := .int .i64 (b1.Heads.length : Int)) rfl rfl rfl rfl (len_map _ _) ?_
    refine GX.q (.int .i64 (max_ (a0.Heads.length : Int) (b1.Heads.length : Int))) ?_
    refine GX.q (.int .i64 (IntKind.i64.wrap (Int.tdiv (max_ (a0.Heads.length : Int) (b1.Heads.length : Int)) 10))) ?_
    refine GX.q (.int .i64 (IntKind.i64.wrap ((IntKind.i64.wrap (Int.tdiv (max_ (a0.Heads.length : Int) (b1.Heads.length : Int)) 10)) + 5))) ?_
    refine GX.q (.bool (decide (i10 < IntKind.i64.wrap ((IntKind.i64.wrap (Int.tdiv (max_ (a0.Heads.length : Int) (b1.Heads.length : Int)) 10)) + 5)))) ?_
    refine GX.done ?_
    rcases bool_two (decide (i10 < IntKind.i64.wrap ((IntKind.i64.wrap (Int.tdiv (max_ (a0.Heads.length : Int) (b1.Heads.length : Int)) 10)) + 5))) with hb10 | hb10
    ·rw [hb10]
     rw [F6_crossroadslaw17_ExchDone_l1_u, hb10, cond_false] at hL_9
     refine WK.condF rfl ?_
     refine WK.exit ?_
     refine QF.exit (hout_9 _ ?_)
     subst hL_9
     try dsimp only [cond_true, cond_false] at hR
     refine WK.seq ?_
     refine WK.conv (st' := ⟨[(5, .ptr 0 0), (7, .ptr 1 0), (9, .ro 1 (fates9.map c_i64))], [(0, .box (TSession.c c40a)), (1, .box (TSession.c c52a))], 2⟩) (Conv.keep [2, 3] [4] [5, 7, 9] rfl rfl (viewE_cons rfl rfl (viewE_cons rfl rfl (viewE_cons rfl (view_rowT rfl rfl) viewE_nil))) rfl rfl) ?_ (by simp)
     refine WK.regx mixed ?_
     refine GX.q (.agg (TSession.c c40a)) ?_
     refine GX.q (.agg (TSession.c c52a)) ?_
     refine GX.m rfl ?_
     generalize hc76 : F19_exch_Run c40a c52a fates9 = c76 at hR
     rcases c76 with _ | c76
     ·try dsimp only at hR
      cases hR
     try dsimp only at hR
     obtain ⟨c76a, c76b⟩ := c76; try dsimp only at hR
     refine GX.callp (r := .tup [.agg [.int .u32 c76a.Own, .int .u32 c76a.Peer, .int .i64 c76a.Phase, .bool c76a.Leads, .int .u32 c76a.Seq, .ro 8 (c76a.Left.map THeader.c), .ro 8 (c76a.Got.map THeader.c), .int .i64 c76a.Last.MTU, .int .i64 c76a.Last.Options, .bool c76a.Last.Init, .bool c76a.Last.More, .bool c76a.Last.Master, .int .u32 c76a.Last.Seq, .ro 8 (c76a.Last.Heads.map THeader.c)], .agg [.int .u32 c76b.Own, .int .u32 c76b.Peer, .int .i64 c76b.Phase, .bool c76b.Leads, .int .u32 c76b.Seq, .ro 8 (c76b.Left.map THeader.c), .ro 8 (c76b.Got.map THeader.c), .int .i64 c76b.Last.MTU, .int .i64 c76b.Last.Options, .bool c76b.Last.Init, .bool c76b.Last.More, .bool c76b.Last.Master, .int .u32 c76b.Last.Seq, .ro 8 (c76b.Last.Heads.map THeader.c)]]) rfl rfl rfl (f19_ok c40a c52a fates9 _ hc76) rfl rfl ?_
     refine GX.m rfl ?_
     refine GX.q (.agg [.int .u32 c76a.Own, .int .u32 c76a.Peer, .int .i64 c76a.Phase, .bool c76a.Leads, .int .u32 c76a.Seq, .ro 8 (c76a.Left.map THeader.c), .ro 8 (c76a.Got.map THeader.c), .int .i64 c76a.Last.MTU, .int .i64 c76a.Last.Options, .bool c76a.Last.Init, .bool c76a.Last.More, .bool c76a.Last.Master, .int .u32 c76a.Last.Seq, .ro 8 (c76a.Last.Heads.map THeader.c)]) ?_
     refine GX.q (.agg [.int .u32 c76b.Own, .int .u32 c76b.Peer, .int .i64 c76b.Phase, .bool c76b.Leads, .int .u32 c76b.Seq, .ro 8 (c76b.Left.map THeader.c), .ro 8 (c76b.Got.map THeader.c), .int .i64 c76b.Last.MTU, .int .i64 c76b.Last.Options, .bool c76b.Last.Init, .bool c76b.Last.More, .bool c76b.Last.Master, .int .u32 c76b.Last.Seq, .ro 8 (c76b.Last.Heads.map THeader.c)]) ?_
     refine GX.step (v' := .ptr 2 0) (heap' := [(0, .box (TSession.c c40a)), (1, .box (TSession.c c52a)), (2, .box [.int .u32 0, .int .u32 0, .int .i64 0, .bool false, .int .u32 0, .nils, .nils, .int .i64 0, .int .i64 0, .bool false, .bool false, .bool false, .int .u32 0, .nils])]) (next' := 3) rfl rfl rfl rfl rfl rfl rfl ?_
     refine GX.step (v' := .ptr 3 0) (heap' := [(0, .box (TSession.c c40a)), (1, .box (TSession.c c52a)), (2, .box [.int .u32 0, .int .u32 0, .int .i64 0, .bool false, .int .u32 0, .nils, .nils, .int .i64 0, .int .i64 0, .bool false, .bool false, .bool false, .int .u32 0, .nils]), (3, .box [.int .u32 0, .int .u32 0, .int .i64 0, .bool false, .int .u32 0, .nils, .nils, .int .i64 0, .int .i64 0, .bool false, .bool false, .bool false, .int .u32 0, .nils])]) (next' := 4) rfl rfl rfl rfl rfl rfl rfl ?_
     refine GX.step0 (heap' := [(0, .box (TSession.c c40a)), (1, .box (TSession.c c52a)), (2, .box (TSession.c c76a)), (3, .box [.int .u32 0, .int .u32 0, .int .i64 0, .bool false, .int .u32 0, .nils, .nils, .int .i64 0, .int .i64 0, .bool false, .bool false, .bool false, .int .u32 0, .nils])]) (next' := 4) rfl rfl rfl rfl rfl ?_
     refine GX.step0 (heap' := [(0, .box (TSession.c c40a)), (1, .box (TSession.c c52a)), (2, .box (TSession.c c76a)), (3, .box (TSession.c c76b))]) (next' := 4) rfl rfl rfl rfl rfl ?_
     refine GX.done ?_
     refine WK.sr mixed ?_
     generalize hc79 : F8_crossroadslaw17_alive = c79 at hR
     rcases c79 with _ | c79
     ·try dsimp only at hR
      cases hR
     try dsimp only at hR
     try dsimp only at hR
     refine GX.callp (r := .bool c79) rfl rfl rfl (f8_ok  _ hc79) rfl rfl ?_
     refine GX.m rfl ?_
     rcases bool_two (c79) with hb11 | hb11
     ·rw [hb11]; first | replace hR := cond_f hb11 hR | (try simp only [hb11, bb] at hR)
      iterate 3 refine GX.skip rfl rfl ?_
      refine GX.q (.bool false) ?_
      refine GX.m rfl ?_
      iterate 3 refine GX.skip rfl rfl ?_
      refine GX.q (.bool false) ?_
      refine GX.m rfl ?_
      refine GX.done ?_
      refine WK.ret ?_
      obtain rfl := Option.some.inj hR
      exact RetQ.fr [] (.inr rfl) rfl rfl rfl rfl
     ·rw [hb11]; first | replace hR := cond_t hb11 hR | (try simp only [hb11, bb] at hR)
      refine GX.q (.ptr 2 2) ?_
      refine GX.q (.int .i64 c76a.Phase) ?_
      iterate 2 refine GX.q (.bool (decide (c76a.Phase = 2))) ?_
      refine GX.m rfl ?_
      rcases bool_two (decide (c76a.Phase = 2)) with hb12 | hb12
      ·rw [hb12]; first | replace hR := cond_f hb12 hR | (try simp only [hb12, bb] at hR)
       iterate 3 refine GX.skip rfl rfl ?_
       refine GX.q (.bool false) ?_
       refine GX.m rfl ?_
       refine GX.done ?_
       refine WK.ret ?_
       obtain rfl := Option.some.inj hR
       exact RetQ.fr [] (.inr rfl) rfl rfl rfl rfl
      ·rw [hb12]; first | replace hR := cond_t hb12 hR | (try simp only [hb12, bb] at hR)
       refine GX.q (.ptr 3 2) ?_
       refine GX.q (.int .i64 c76b.Phase) ?_
       iterate 2 refine GX.q (.bool (decide (c76b.Phase = 2))) ?_
       refine GX.m rfl ?_
       refine GX.done ?_
       refine WK.ret ?_
       obtain rfl := Option.some.inj hR
       exact RetQ.fr [] (.inr rfl) rfl rfl rfl rfl
    ·rw [hb10]
     obtain ⟨f9, rfl⟩ := fuel_pos hb10 hfu9
     rw [F6_crossroadslaw17_ExchDone_l1_u, hb10, cond_true] at hL_9; dsimp only at hL_9
     refine WK.condT rfl ?_
     refine WK.skip ?_
     refine WK.seq ?_
     refine WK.blockK (fun _ hK13 => ?_)
     refine WK.regx mixed ?_
     refine GX.m rfl ?_
     refine GX.step (v' := .own 5 1 0 (([0, 1, 0, 1] : List Int)).length) (heap' := [(0, .box (TStart.c a0)), (1, .box (TStart.c b1)), (2, .box (TSession.c c40a)), (3, .box (TSession.c c52a)), (4, .row 1 3 (fates9.map c_i64)), (5, .row 1 3 (([0, 1, 0, 1] : List Int).map c_i64))]) (next' := 6) rfl rfl rfl rfl rfl rfl rfl ?_
     rcases bool_two (decide (fates9.length < 1099511627776)) with hg14 | hg14
     ·simp only [hg14, bb] at hL_9
      try dsimp only at hL_9
      subst hL_9
      try dsimp only at hR
      cases hR
     simp only [hg14, bb] at hL_9
     have hg14_ := of_decide_eq_true hg14
     refine GX.appT (c := c_i64) (L := fates9) (X := ([0, 1, 0, 1] : List Int)) (heap' := [(0, .box (TStart.c a0)), (1, .box (TStart.c b1)), (2, .box (TSession.c c40a)), (3, .box (TSession.c c52a)), (5, .row 1 3 (([0, 1, 0, 1] : List Int).map c_i64)), (6, .row 1 3 ((fates9 ++ ([0, 1, 0, 1] : List Int)).map c_i64))]) (next' := 7) rfl rfl rfl rfl (elems_own rfl) (by ((try simp only [List.length_append, List.length_cons, List.length_nil, List.length_map, decide_eq_true_eq, decide_eq_false_iff_not] at *) <;> omega)) (by ((try simp only [List.length_append, List.length_cons, List.length_nil, List.length_map, decide_eq_true_eq, decide_eq_false_iff_not] at *) <;> omega)) rfl rfl rfl rfl ?_
     refine GX.m rfl ?_
     refine GX.done ?_
     refine WK.nil (QF.normal (hK13 _ ?_))
     refine WK.regx mixed ?_
     refine GX.m rfl ?_
     refine GX.q (.int .i64 (IntKind.i64.wrap (i10 + 1))) ?_
     refine GX.m rfl ?_
     refine GX.done ?_
     refine WK.nil (QF.normal ?_)
     exact hagain_9 _ f9 ⟨[(2, .ptr 0 0), (3, .ptr 1 0), (5, .ptr 2 0), (7, .ptr 3 0), (9, .own 4 1 0 (fates9 ++ ([0, 1, 0, 1] : List Int)).length), (10, .int .i64 (IntKind.i64.wrap (i10 + 1)))], [(0, .box (TStart.c a0)), (1, .box (TStart.c b1)), (2, .box (TSession.c c40a)), (3, .box (TSession.c c52a)), (4, .row 1 3 ((fates9 ++ ([0, 1, 0, 1] : List Int)).map c_i64))], 5⟩ (Nat.lt_succ_self _) (Conv.keep [0, 1, 2, 3, 6] [] [2, 3, 5, 7, 9, 10] rfl rfl (viewE_cons rfl rfl (viewE_cons rfl rfl (viewE_cons rfl rfl (viewE_cons rfl rfl (viewE_cons rfl rfl (viewE_cons rfl rfl viewE_nil)))))) rfl rfl) ⟨(IntKind.i64.wrap (i10 + 1)), (fates9 ++ ([0, 1, 0, 1] : List Int)), fuel_up hb10 (by (have hlf := wrap_i64_le ((IntKind.i64.wrap (Int.tdiv (max_ (a0.Heads.length : Int) (b1.Heads.length : Int)) 10)) + 5); (try simp only [decide_eq_true_eq, decide_eq_false_iff_not] at *); first | omega | (rw [wrap64_of (by omega) (by omega)]; omega))) hfu9, (by (have hlf := wrap_i64_le ((IntKind.i64.wrap (Int.tdiv (max_ (a0.Heads.length : Int) (b1.Heads.length : Int)) 10)) + 5); (try simp only [decide_eq_true_eq, decide_eq_false_iff_not] at *); first | omega | (rw [wrap64_of (by omega) (by omega)]; omega))), hL_9, rfl⟩
   ·rw [hb3]; first | replace hR := cond_t hb3 hR | (try simp only [hb3, bb] at hR)
    refine WK.condT rfl ?_
    refine WK.sr mixed ?_
    generalize hc30 : F8_crossroadslaw17_alive = c30 at hR
    rcases c30 with _ | c30
    ·try dsimp only at hR
     cases hR
    try dsimp only at hR
    try dsimp only at hR
    refine GX.callp (r := .bool c30) rfl rfl rfl (f8_ok  _ hc30) rfl rfl ?_
    refine GX.m rfl ?_
    refine GX.done ?_
    refine WK.ret ?_
    obtain rfl := Option.some.inj hR
    exact RetQ.fr [] (.inr rfl) rfl rfl rfl rfl
  ·rw [hb2]; first | replace hR := cond_t hb2 hR | (try simp only [hb2, bb] at hR)
   iterate 5 refine GX.skip rfl rfl ?_
   refine GX.q (.bool true) ?_
   refine GX.done ?_
   refine WK.condT rfl ?_
   refine WK.sr mixed ?_
   generalize hc30 : F8_crossroadslaw17_alive = c30 at hR
   rcases c30 with _ | c30
   ·try dsimp only at hR
    cases hR
   try dsimp only at hR
   try dsimp only at hR
   refine GX.callp (r := .bool c30) rfl rfl rfl (f8_ok  _ hc30) rfl rfl ?_
   refine GX.m rfl ?_
   refine GX.done ?_
   refine WK.ret ?_
   obtain rfl := Option.some.inj hR
   exact RetQ.fr [] (.inr rfl) rfl rfl rfl rfl
 ·rw [hb1]; first | replace hR := cond_t hb1 hR | (try simp only [hb1, bb] at hR)
  iterate 4 refine GX.skip rfl rfl ?_
  refine GX.q (.bool true) ?_
  refine GX.m rfl ?_
  iterate 5 refine GX.skip rfl rfl ?_
  refine GX.q (.bool true) ?_
  refine GX.done ?_
  refine WK.condT rfl ?_
  refine WK.sr mixed ?_
  generalize hc30 : F8_crossroadslaw17_alive = c30 at hR
  rcases c30 with _ | c30
  ·try dsimp only at hR
   cases hR
  try dsimp only at hR
  try dsimp only at hR
  refine GX.callp (r := .bool c30) rfl rfl rfl (f8_ok  _ hc30) rfl rfl ?_
  refine GX.m rfl ?_
  refine GX.done ?_
  refine WK.ret ?_
  obtain rfl := Option.some.inj hR
  exact RetQ.fr [] (.inr rfl) rfl rfl rfl rfl

end Go.Proofs.Ytbmdpedhobkeeaa.Abs
