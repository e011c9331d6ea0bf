/- The functions walked: each computes its Lean function (printed by this work's own program gen.py). -/
import Derived.Test.YtbmdpedhobkeeaaSq
import Derived.Test.YtbmdpedhobkeeaaW1
set_option linter.unusedVariables false
set_option linter.unusedSimpArgs false
set_option maxRecDepth 10000
set_option maxHeartbeats 4000000
namespace Go.Proofs.Ytbmdpedhobkeeaa.Abs
open Go

theorem f19_ok (a0 : TSession) (b1 : TSession) (fates2 : List Int) (R : TSession × TSession) (hR : F19_exch_Run a0 b1 fates2 = some R) : FnOk Try.prog 19 [.agg (TSession.c a0), .agg (TSession.c b1), .ro 1 (fates2.map c_i64)] [] 0 (.tup [.agg (TSession.c R.1), .agg (TSession.c R.2)]) [] 0 := by
 refine FnOk.wk i19 rfl rfl ?_
 unfold F19_exch_Run at hR
 try dsimp only at hR
 change WK _ _ _ [ac19] _ ⟨[(0, .agg (TSession.c a0)), (1, .agg (TSession.c b1)), (2, .ro 1 (fates2.map c_i64))], [], 0⟩
 unfold ac19
 refine WK.sr mixed ?_
 refine GX.step (v' := .ptr 0 0) (heap' := [(0, .box (TSession.c a0))]) (next' := 1) rfl rfl rfl rfl rfl rfl rfl ?_
 refine GX.step (v' := .ptr 1 0) (heap' := [(0, .box (TSession.c a0)), (1, .box (TSession.c b1))]) (next' := 2) rfl rfl rfl rfl rfl rfl rfl ?_
 refine GX.step (v' := .ptr 2 0) (heap' := [(0, .box (TSession.c a0)), (1, .box (TSession.c b1)), (2, .box [.int .u32 0, .int .u32 0, .int .i64 0, .bool false, .int .u32 0, .nils, .nils, .int .i64 0, .int .i64 0, .bool false, .bool false, .bool false, .int .u32 0, .nils])]) (next' := 3) rfl rfl rfl rfl rfl rfl rfl ?_
 refine GX.step (v' := .ptr 3 0) (heap' := [(0, .box (TSession.c a0)), (1, .box (TSession.c b1)), (2, .box [.int .u32 0, .int .u32 0, .int .i64 0, .bool false, .int .u32 0, .nils, .nils, .int .i64 0, .int .i64 0, .bool false, .bool false, .bool false, .int .u32 0, .nils]), (3, .box [.int .u32 0, .int .u32 0, .int .i64 0, .bool false, .int .u32 0, .nils, .nils, .int .i64 0, .int .i64 0, .bool false, .bool false, .bool false, .int .u32 0, .nils])]) (next' := 4) rfl rfl rfl rfl rfl rfl rfl ?_
 refine GX.done ?_
 refine WK.seq ?_
 refine WK.drawn mixed ?_
 refine RD.q (.agg (TSession.c a0)) ?_
 refine RD.q (.ptr 1 7) ?_
 refine RD.q (.agg [.int .i64 b1.Last.MTU, .int .i64 b1.Last.Options, .bool b1.Last.Init, .bool b1.Last.More, .bool b1.Last.Master, .int .u32 b1.Last.Seq, .ro 8 (b1.Last.Heads.map THeader.c)]) ?_
 refine RD.step (v' := .own 4 7 0 (([b1.Last] : List TDesc)).length) (heap' := [(0, .box (TSession.c a0)), (1, .box (TSession.c b1)), (2, .box [.int .u32 0, .int .u32 0, .int .i64 0, .bool false, .int .u32 0, .nils, .nils, .int .i64 0, .int .i64 0, .bool false, .bool false, .bool false, .int .u32 0, .nils]), (3, .box [.int .u32 0, .int .u32 0, .int .i64 0, .bool false, .int .u32 0, .nils, .nils, .int .i64 0, .int .i64 0, .bool false, .bool false, .bool false, .int .u32 0, .nils]), (4, .row 7 29 (([b1.Last] : List TDesc).map TDesc.c))]) (next' := 5) rfl rfl rfl rfl rfl rfl rfl ?_
 refine RD.q (.agg [.int .u32 a0.Own, .int .u32 a0.Peer, .int .i64 a0.Phase, .bool a0.Leads, .int .u32 a0.Seq, .ro 8 (a0.Left.map THeader.c), .ro 8 (a0.Got.map THeader.c), .int .i64 a0.Last.MTU, .int .i64 a0.Last.Options, .bool a0.Last.Init, .bool a0.Last.More, .bool a0.Last.Master, .int .u32 a0.Last.Seq, .ro 8 (a0.Last.Heads.map THeader.c), .own 4 7 0 (([b1.Last] : List TDesc)).length]) ?_
 refine RD.step (v' := .ptr 5 0) (heap' := [(0, .box (TSession.c a0)), (1, .box (TSession.c b1)), (2, .box [.int .u32 0, .int .u32 0, .int .i64 0, .bool false, .int .u32 0, .nils, .nils, .int .i64 0, .int .i64 0, .bool false, .bool false, .bool false, .int .u32 0, .nils]), (3, .box [.int .u32 0, .int .u32 0, .int .i64 0, .bool false, .int .u32 0, .nils, .nils, .int .i64 0, .int .i64 0, .bool false, .bool false, .bool false, .int .u32 0, .nils]), (4, .row 7 29 (([b1.Last] : List TDesc).map TDesc.c)), (5, .box [.int .u32 a0.Own, .int .u32 a0.Peer, .int .i64 a0.Phase, .bool a0.Leads, .int .u32 a0.Seq, .ro 8 (a0.Left.map THeader.c), .ro 8 (a0.Got.map THeader.c), .int .i64 a0.Last.MTU, .int .i64 a0.Last.Options, .bool a0.Last.Init, .bool a0.Last.More, .bool a0.Last.Master, .int .u32 a0.Last.Seq, .ro 8 (a0.Last.Heads.map THeader.c), .own 4 7 0 (([b1.Last] : List TDesc)).length])]) (next' := 6) rfl rfl rfl rfl rfl rfl rfl ?_
 refine RD.q (.agg (TSession.c b1)) ?_
 refine RD.q (.ptr 0 7) ?_
 refine RD.q (.agg [.int .i64 a0.Last.MTU, .int .i64 a0.Last.Options, .bool a0.Last.Init, .bool a0.Last.More, .bool a0.Last.Master, .int .u32 a0.Last.Seq, .ro 8 (a0.Last.Heads.map THeader.c)]) ?_
 refine RD.step (v' := .own 6 7 0 (([a0.Last] : List TDesc)).length) (heap' := [(0, .box (TSession.c a0)), (1, .box (TSession.c b1)), (2, .box [.int .u32 0, .int .u32 0, .int .i64 0, .bool false, .int .u32 0, .nils, .nils, .int .i64 0, .int .i64 0, .bool false, .bool false, .bool false, .int .u32 0, .nils]), (3, .box [.int .u32 0, .int .u32 0, .int .i64 0, .bool false, .int .u32 0, .nils, .nils, .int .i64 0, .int .i64 0, .bool false, .bool false, .bool false, .int .u32 0, .nils]), (4, .row 7 29 (([b1.Last] : List TDesc).map TDesc.c)), (5, .box [.int .u32 a0.Own, .int .u32 a0.Peer, .int .i64 a0.Phase, .bool a0.Leads, .int .u32 a0.Seq, .ro 8 (a0.Left.map THeader.c), .ro 8 (a0.Got.map THeader.c), .int .i64 a0.Last.MTU, .int .i64 a0.Last.Options, .bool a0.Last.Init, .bool a0.Last.More, .bool a0.Last.Master, .int .u32 a0.Last.Seq, .ro 8 (a0.Last.Heads.map THeader.c), .own 4 7 0 (([b1.Last] : List TDesc)).length]), (6, .row 7 29 (([a0.Last] : List TDesc).map TDesc.c))]) (next' := 7) rfl rfl rfl rfl rfl rfl rfl ?_
 refine RD.q (.agg [.int .u32 b1.Own, .int .u32 b1.Peer, .int .i64 b1.Phase, .bool b1.Leads, .int .u32 b1.Seq, .ro 8 (b1.Left.map THeader.c), .ro 8 (b1.Got.map THeader.c), .int .i64 b1.Last.MTU, .int .i64 b1.Last.Options, .bool b1.Last.Init, .bool b1.Last.More, .bool b1.Last.Master, .int .u32 b1.Last.Seq, .ro 8 (b1.Last.Heads.map THeader.c), .own 6 7 0 (([a0.Last] : List TDesc)).length]) ?_
 refine RD.step (v' := .ptr 7 0) (heap' := [(0, .box (TSession.c a0)), (1, .box (TSession.c b1)), (2, .box [.int .u32 0, .int .u32 0, .int .i64 0, .bool false, .int .u32 0, .nils, .nils, .int .i64 0, .int .i64 0, .bool false, .bool false, .bool false, .int .u32 0, .nils]), (3, .box [.int .u32 0, .int .u32 0, .int .i64 0, .bool false, .int .u32 0, .nils, .nils, .int .i64 0, .int .i64 0, .bool false, .bool false, .bool false, .int .u32 0, .nils]), (4, .row 7 29 (([b1.Last] : List TDesc).map TDesc.c)), (5, .box [.int .u32 a0.Own, .int .u32 a0.Peer, .int .i64 a0.Phase, .bool a0.Leads, .int .u32 a0.Seq, .ro 8 (a0.Left.map THeader.c), .ro 8 (a0.Got.map THeader.c), .int .i64 a0.Last.MTU, .int .i64 a0.Last.Options, .bool a0.Last.Init, .bool a0.Last.More, .bool a0.Last.Master, .int .u32 a0.Last.Seq, .ro 8 (a0.Last.Heads.map THeader.c), .own 4 7 0 (([b1.Last] : List TDesc)).length]), (6, .row 7 29 (([a0.Last] : List TDesc).map TDesc.c)), (7, .box [.int .u32 b1.Own, .int .u32 b1.Peer, .int .i64 b1.Phase, .bool b1.Leads, .int .u32 b1.Seq, .ro 8 (b1.Left.map THeader.c), .ro 8 (b1.Got.map THeader.c), .int .i64 b1.Last.MTU, .int .i64 b1.Last.Options, .bool b1.Last.Init, .bool b1.Last.More, .bool b1.Last.Master, .int .u32 b1.Last.Seq, .ro 8 (b1.Last.Heads.map THeader.c), .own 6 7 0 (([a0.Last] : List TDesc)).length])]) (next' := 8) rfl rfl rfl rfl rfl rfl rfl ?_
 iterate 2 refine RD.m rfl ?_
 refine RD.done rfl ?_
 refine WK.seq ?_
 refine WK.sr mixed ?_
 refine GX.m rfl ?_
 refine GX.pure (v' := .int .i64 (fates2.length : Int)) rfl rfl rfl rfl (len_map _ _) ?_
 refine GX.m rfl ?_
 refine GX.done ?_
 refine WK.len (t := 2) rfl (by simp) (fun hlen_15 => ?_)
 rw [List.length_map] at hlen_15
 generalize hZ_15 : F19_exch_Run_l1 (⟨a0, ([b1.Last] : List TDesc)⟩ : TEnd) (⟨b1, ([a0.Last] : List TDesc)⟩ : TEnd) fates2 = Z_15 at hR
 refine WK.forK (fun k s => ∃ (i28 : Nat) (x8 : TEnd) (y9 : TEnd), i28 ≤ fates2.length ∧ k = fates2.length - i28 ∧ F19_exch_Run_l1 x8 y9 (fates2.drop i28) = Z_15 ∧ s = ⟨[(6, .ptr 0 0), (7, .ptr 1 0), (8, .ptr 2 0), (9, .ptr 4 0), (26, .ro 1 (fates2.map c_i64)), (27, .int .i64 (fates2.length : Int)), (28, .int .i64 (i28 : Int))], [(0, .box [.int .u32 0, .int .u32 0, .int .i64 0, .bool false, .int .u32 0, .nils, .nils, .int .i64 0, .int .i64 0, .bool false, .bool false, .bool false, .int .u32 0, .nils]), (1, .box [.int .u32 0, .int .u32 0, .int .i64 0, .bool false, .int .u32 0, .nils, .nils, .int .i64 0, .int .i64 0, .bool false, .bool false, .bool false, .int .u32 0, .nils]), (2, .box [.int .u32 x8.s.Own, .int .u32 x8.s.Peer, .int .i64 x8.s.Phase, .bool x8.s.Leads, .int .u32 x8.s.Seq, .ro 8 (x8.s.Left.map THeader.c), .ro 8 (x8.s.Got.map THeader.c), .int .i64 x8.s.Last.MTU, .int .i64 x8.s.Last.Options, .bool x8.s.Last.Init, .bool x8.s.Last.More, .bool x8.s.Last.Master, .int .u32 x8.s.Last.Seq, .ro 8 (x8.s.Last.Heads.map THeader.c), .own 3 7 0 x8.waits.length]), (3, .row 7 29 (x8.waits.map TDesc.c)), (4, .box [.int .u32 y9.s.Own, .int .u32 y9.s.Peer, .int .i64 y9.s.Phase, .bool y9.s.Leads, .int .u32 y9.s.Seq, .ro 8 (y9.s.Left.map THeader.c), .ro 8 (y9.s.Got.map THeader.c), .int .i64 y9.s.Last.MTU, .int .i64 y9.s.Last.Options, .bool y9.s.Last.Init, .bool y9.s.Last.More, .bool y9.s.Last.Master, .int .u32 y9.s.Last.Seq, .ro 8 (y9.s.Last.Heads.map THeader.c), .own 5 7 0 y9.waits.length]), (5, .row 7 29 (y9.waits.map TDesc.c))], 6⟩) fates2.length ⟨⟨[(6, .ptr 0 0), (7, .ptr 1 0), (8, .ptr 2 0), (9, .ptr 4 0), (26, .ro 1 (fates2.map c_i64)), (27, .int .i64 (fates2.length : Int)), (28, .int .i64 (0 : Int))], [(0, .box [.int .u32 0, .int .u32 0, .int .i64 0, .bool false, .int .u32 0, .nils, .nils, .int .i64 0, .int .i64 0, .bool false, .bool false, .bool false, .int .u32 0, .nils]), (1, .box [.int .u32 0, .int .u32 0, .int .i64 0, .bool false, .int .u32 0, .nils, .nils, .int .i64 0, .int .i64 0, .bool false, .bool false, .bool false, .int .u32 0, .nils]), (2, .box [.int .u32 (⟨a0, ([b1.Last] : List TDesc)⟩ : TEnd).s.Own, .int .u32 (⟨a0, ([b1.Last] : List TDesc)⟩ : TEnd).s.Peer, .int .i64 (⟨a0, ([b1.Last] : List TDesc)⟩ : TEnd).s.Phase, .bool (⟨a0, ([b1.Last] : List TDesc)⟩ : TEnd).s.Leads, .int .u32 (⟨a0, ([b1.Last] : List TDesc)⟩ : TEnd).s.Seq, .ro 8 ((⟨a0, ([b1.Last] : List TDesc)⟩ : TEnd).s.Left.map THeader.c), .ro 8 ((⟨a0, ([b1.Last] : List TDesc)⟩ : TEnd).s.Got.map THeader.c), .int .i64 (⟨a0, ([b1.Last] : List TDesc)⟩ : TEnd).s.Last.MTU, .int .i64 (⟨a0, ([b1.Last] : List TDesc)⟩ : TEnd).s.Last.Options, .bool (⟨a0, ([b1.Last] : List TDesc)⟩ : TEnd).s.Last.Init, .bool (⟨a0, ([b1.Last] : List TDesc)⟩ : TEnd).s.Last.More, .bool (⟨a0, ([b1.Last] : List TDesc)⟩ : TEnd).s.Last.Master, .int .u32 (⟨a0, ([b1.Last] : List TDesc)⟩ : TEnd).s.Last.Seq, .ro 8 ((⟨a0, ([b1.Last] : List TDesc)⟩ : TEnd).s.Last.Heads.map THeader.c), .own 3 7 0 (⟨a0, ([b1.Last] : List TDesc)⟩ : TEnd).waits.length]), (3, .row 7 29 ((⟨a0, ([b1.Last] : List TDesc)⟩ : TEnd).waits.map TDesc.c)), (4, .box [.int .u32 (⟨b1, ([a0.Last] : List TDesc)⟩ : TEnd).s.Own, .int .u32 (⟨b1, ([a0.Last] : List TDesc)⟩ : TEnd).s.Peer, .int .i64 (⟨b1, ([a0.Last] : List TDesc)⟩ : TEnd).s.Phase, .bool (⟨b1, ([a0.Last] : List TDesc)⟩ : TEnd).s.Leads, .int .u32 (⟨b1, ([a0.Last] : List TDesc)⟩ : TEnd).s.Seq, .ro 8 ((⟨b1, ([a0.Last] : List TDesc)⟩ : TEnd).s.Left.map THeader.c), .ro 8 ((⟨b1, ([a0.Last] : List TDesc)⟩ : TEnd).s.Got.map THeader.c), .int .i64 (⟨b1, ([a0.Last] : List TDesc)⟩ : TEnd).s.Last.MTU, .int .i64 (⟨b1, ([a0.Last] : List TDesc)⟩ : TEnd).s.Last.Options, .bool (⟨b1, ([a0.Last] : List TDesc)⟩ : TEnd).s.Last.Init, .bool (⟨b1, ([a0.Last] : List TDesc)⟩ : TEnd).s.Last.More, .bool (⟨b1, ([a0.Last] : List TDesc)⟩ : TEnd).s.Last.Master, .int .u32 (⟨b1, ([a0.Last] : List TDesc)⟩ : TEnd).s.Last.Seq, .ro 8 ((⟨b1, ([a0.Last] : List TDesc)⟩ : TEnd).s.Last.Heads.map THeader.c), .own 5 7 0 (⟨b1, ([a0.Last] : List TDesc)⟩ : TEnd).waits.length]), (5, .row 7 29 ((⟨b1, ([a0.Last] : List TDesc)⟩ : TEnd).waits.map TDesc.c))], 6⟩, Conv.keep [2, 3, 5, 4, 7, 6] [] [6, 7, 8, 9, 26, 27, 28] rfl rfl (viewE_cons rfl rfl (viewE_cons rfl rfl (viewE_cons rfl rfl (viewE_cons rfl rfl (viewE_cons rfl rfl (viewE_cons rfl rfl (viewE_cons rfl rfl viewE_nil))))))) rfl rfl, 0, (⟨a0, ([b1.Last] : List TDesc)⟩ : TEnd), (⟨b1, ([a0.Last] : List TDesc)⟩ : TEnd), (by omega), rfl, hZ_15, rfl⟩ ?_
 rintro _ _ ⟨i28, x8, y9, hi_15, rfl, hL_15, rfl⟩ again_15 out_15 Q_15 hagain_15 hout_15 hQ_15
 refine WK.sr mixed ?_
 refine GX.q (.bool (decide ((i28 : Int) < (fates2.length : Int)))) ?_
 refine GX.done ?_
 refine WK.seq ?_
 rcases bool_two (decide ((i28 : Int) < (fates2.length : Int))) with hb16 | hb16
 ·rw [hb16]
  rw [drop_end hb16, F19_exch_Run_l1] at hL_15
  refine WK.condF rfl ?_
  refine WK.exit ?_
  refine QF.exit (hout_15 _ ?_)
  subst hL_15
  try dsimp only [cond_true, cond_false] at hR
  refine WK.seq ?_
  refine WK.drawn mixed ?_
  refine RD.m rfl ?_
  iterate 2 refine RD.q (.ptr 2 0) ?_
  refine RD.q (.agg [.int .u32 x8.s.Own, .int .u32 x8.s.Peer, .int .i64 x8.s.Phase, .bool x8.s.Leads, .int .u32 x8.s.Seq, .ro 8 (x8.s.Left.map THeader.c), .ro 8 (x8.s.Got.map THeader.c), .int .i64 x8.s.Last.MTU, .int .i64 x8.s.Last.Options, .bool x8.s.Last.Init, .bool x8.s.Last.More, .bool x8.s.Last.Master, .int .u32 x8.s.Last.Seq, .ro 8 (x8.s.Last.Heads.map THeader.c)]) ?_
  refine RD.m rfl ?_
  iterate 2 refine RD.q (.ptr 4 0) ?_
  refine RD.q (.agg [.int .u32 y9.s.Own, .int .u32 y9.s.Peer, .int .i64 y9.s.Phase, .bool y9.s.Leads, .int .u32 y9.s.Seq, .ro 8 (y9.s.Left.map THeader.c), .ro 8 (y9.s.Got.map THeader.c), .int .i64 y9.s.Last.MTU, .int .i64 y9.s.Last.Options, .bool y9.s.Last.Init, .bool y9.s.Last.More, .bool y9.s.Last.Master, .int .u32 y9.s.Last.Seq, .ro 8 (y9.s.Last.Heads.map THeader.c)]) ?_
  refine RD.step0 (heap' := [(0, .box (TSession.c x8.s)), (1, .box [.int .u32 0, .int .u32 0, .int .i64 0, .bool false, .int .u32 0, .nils, .nils, .int .i64 0, .int .i64 0, .bool false, .bool false, .bool false, .int .u32 0, .nils]), (2, .box [.int .u32 x8.s.Own, .int .u32 x8.s.Peer, .int .i64 x8.s.Phase, .bool x8.s.Leads, .int .u32 x8.s.Seq, .ro 8 (x8.s.Left.map THeader.c), .ro 8 (x8.s.Got.map THeader.c), .int .i64 x8.s.Last.MTU, .int .i64 x8.s.Last.Options, .bool x8.s.Last.Init, .bool x8.s.Last.More, .bool x8.s.Last.Master, .int .u32 x8.s.Last.Seq, .ro 8 (x8.s.Last.Heads.map THeader.c), .own 3 7 0 x8.waits.length]), (3, .row 7 29 (x8.waits.map TDesc.c)), (4, .box [.int .u32 y9.s.Own, .int .u32 y9.s.Peer, .int .i64 y9.s.Phase, .bool y9.s.Leads, .int .u32 y9.s.Seq, .ro 8 (y9.s.Left.map THeader.c), .ro 8 (y9.s.Got.map THeader.c), .int .i64 y9.s.Last.MTU, .int .i64 y9.s.Last.Options, .bool y9.s.Last.Init, .bool y9.s.Last.More, .bool y9.s.Last.Master, .int .u32 y9.s.Last.Seq, .ro 8 (y9.s.Last.Heads.map THeader.c), .own 5 7 0 y9.waits.length]), (5, .row 7 29 (y9.waits.map TDesc.c))]) (next' := 6) rfl rfl rfl rfl rfl ?_
  refine RD.step0 (heap' := [(0, .box (TSession.c x8.s)), (1, .box (TSession.c y9.s)), (2, .box [.int .u32 x8.s.Own, .int .u32 x8.s.Peer, .int .i64 x8.s.Phase, .bool x8.s.Leads, .int .u32 x8.s.Seq, .ro 8 (x8.s.Left.map THeader.c), .ro 8 (x8.s.Got.map THeader.c), .int .i64 x8.s.Last.MTU, .int .i64 x8.s.Last.Options, .bool x8.s.Last.Init, .bool x8.s.Last.More, .bool x8.s.Last.Master, .int .u32 x8.s.Last.Seq, .ro 8 (x8.s.Last.Heads.map THeader.c), .own 3 7 0 x8.waits.length]), (3, .row 7 29 (x8.waits.map TDesc.c)), (4, .box [.int .u32 y9.s.Own, .int .u32 y9.s.Peer, .int .i64 y9.s.Phase, .bool y9.s.Leads, .int .u32 y9.s.Seq, .ro 8 (y9.s.Left.map THeader.c), .ro 8 (y9.s.Got.map THeader.c), .int .i64 y9.s.Last.MTU, .int .i64 y9.s.Last.Options, .bool y9.s.Last.Init, .bool y9.s.Last.More, .bool y9.s.Last.Master, .int .u32 y9.s.Last.Seq, .ro 8 (y9.s.Last.Heads.map THeader.c), .own 5 7 0 y9.waits.length]), (5, .row 7 29 (y9.waits.map TDesc.c))]) (next' := 6) rfl rfl rfl rfl rfl ?_
  refine RD.done rfl ?_
  refine WK.ret ?_
  obtain rfl := Option.some.inj hR
  exact RetQ.fr [] (.inr rfl) rfl rfl rfl rfl
 ·rw [hb16]
  obtain ⟨x28, hx15, hd15, hlt15⟩ := drop_more hb16
  rw [hd15, F19_exch_Run_l1] at hL_15
  refine WK.condT rfl ?_
  refine WK.skip ?_
  refine WK.seq ?_
  refine WK.blockK (fun _ hK17 => ?_)
  refine WK.sr mixed ?_
  refine GX.idxT (c := c_i64) (x := x28) rfl rfl rfl (Int.natCast_nonneg _) hx15 ?_
  refine GX.q (.int .i64 x28) ?_
  refine GX.m rfl ?_
  refine GX.done ?_
  refine WK.sr mixed ?_
  iterate 4 refine GX.m rfl ?_
  refine GX.done ?_
  refine WK.seq ?_
  refine WK.sr mixed ?_
  refine GX.m rfl ?_
  refine GX.q (.int .i64 (bit_and .i64 x28 1)) ?_
  refine GX.q (.bool (!decide (bit_and .i64 x28 1 = 0))) ?_
  refine GX.done ?_
  rcases bool_two (decide (bit_and .i64 x28 1 = 0)) with hb18 | hb18
  ·rw [hb18]; try simp only [hb18, bb] at hL_15
   refine WK.condT rfl ?_
   refine WK.regx mixed ?_
   iterate 4 refine GX.m rfl ?_
   refine GX.done ?_
   refine WK.sr mixed ?_
   refine GX.m rfl ?_
   refine GX.done ?_
   refine WK.blockK (fun _ hK19 => ?_)
   refine WK.seq ?_
   refine WK.sr mixed ?_
   refine GX.q (.bool (decide (x28 = 0))) ?_
   refine GX.m rfl ?_
   refine GX.done ?_
   rcases bool_two (decide (x28 = 0)) with hb20 | hb20
   ·rw [hb20]; try simp only [hb20, bb] at hL_15
    refine WK.condF rfl ?_
    refine WK.regx mixed ?_
    refine GX.q (.bool (decide (x28 = 1))) ?_
    refine GX.m rfl ?_
    refine GX.done ?_
    rcases bool_two (decide (x28 = 1)) with hb21 | hb21
    ·rw [hb21]; try simp only [hb21, bb] at hL_15
     refine WK.condF rfl ?_
     refine WK.seq ?_
     refine WK.sr mixed ?_
     refine GX.q (.bool (decide (x28 = 2))) ?_
     refine GX.m rfl ?_
     refine GX.done ?_
     rcases bool_two (decide (x28 = 2)) with hb22 | hb22
     ·rw [hb22]; try simp only [hb22, bb] at hL_15
      refine WK.condF rfl ?_
      refine WK.regx mixed ?_
      refine GX.q (.bool (decide (x28 = 3))) ?_
      refine GX.m rfl ?_
      refine GX.done ?_
      rcases bool_two (decide (x28 = 3)) with hb23 | hb23
      ·rw [hb23]; try simp only [hb23, bb] at hL_15
       refine WK.condF rfl ?_
       refine WK.seq ?_
       refine WK.sr mixed ?_
       refine GX.q (.bool (decide (x28 = 4))) ?_
       refine GX.m rfl ?_
       refine GX.done ?_
       rcases bool_two (decide (x28 = 4)) with hb24 | hb24
       ·rw [hb24]; try simp only [hb24, bb] at hL_15
        refine WK.condF rfl ?_
        refine WK.regx mixed ?_
        refine GX.q (.bool (decide (x28 = 5))) ?_
        refine GX.m rfl ?_
        refine GX.done ?_
        rcases bool_two (decide (x28 = 5)) with hb25 | hb25
        ·rw [hb25]; try simp only [hb25, bb] at hL_15
         refine WK.condF rfl ?_
         refine WK.seq ?_
         refine WK.sr mixed ?_
         refine GX.q (.bool (decide (x28 = 6))) ?_
         refine GX.m rfl ?_
         refine GX.done ?_
         rcases bool_two (decide (x28 = 6)) with hb26 | hb26
         ·rw [hb26]; try simp only [hb26, bb] at hL_15
          refine WK.condF rfl ?_
          refine WK.regx mixed ?_
          refine GX.q (.bool (decide (x28 = 7))) ?_
          refine GX.m rfl ?_
          refine GX.done ?_
          rcases bool_two (decide (x28 = 7)) with hb27 | hb27
          ·rw [hb27]; try simp only [hb27, bb] at hL_15
           refine WK.condF rfl ?_
           refine WK.skip ?_
           refine WK.nil (QF.normal (hK19 _ ?_))
           refine WK.nil (QF.normal (hK17 _ ?_))
           refine WK.regx mixed ?_
           refine GX.pure (v' := .int .i64 ((i28 + 1 : Nat) : Int)) rfl rfl rfl rfl (congrArg (PVal.int .i64) (wrap_up hlt15 hlen_15)) ?_
           refine GX.m rfl ?_
           refine GX.done ?_
           refine WK.nil (QF.normal ?_)
           exact hagain_15 _ (fates2.length - (i28 + 1)) ⟨[(6, .ptr 0 0), (7, .ptr 1 0), (8, .ptr 2 0), (9, .ptr 4 0), (26, .ro 1 (fates2.map c_i64)), (27, .int .i64 (fates2.length : Int)), (28, .int .i64 ((i28 + 1) : Int))], [(0, .box [.int .u32 0, .int .u32 0, .int .i64 0, .bool false, .int .u32 0, .nils, .nils, .int .i64 0, .int .i64 0, .bool false, .bool false, .bool false, .int .u32 0, .nils]), (1, .box [.int .u32 0, .int .u32 0, .int .i64 0, .bool false, .int .u32 0, .nils, .nils, .int .i64 0, .int .i64 0, .bool false, .bool false, .bool false, .int .u32 0, .nils]), (2, .box [.int .u32 x8.s.Own, .int .u32 x8.s.Peer, .int .i64 x8.s.Phase, .bool x8.s.Leads, .int .u32 x8.s.Seq, .ro 8 (x8.s.Left.map THeader.c), .ro 8 (x8.s.Got.map THeader.c), .int .i64 x8.s.Last.MTU, .int .i64 x8.s.Last.Options, .bool x8.s.Last.Init, .bool x8.s.Last.More, .bool x8.s.Last.Master, .int .u32 x8.s.Last.Seq, .ro 8 (x8.s.Last.Heads.map THeader.c), .own 3 7 0 x8.waits.length]), (3, .row 7 29 (x8.waits.map TDesc.c)), (4, .box [.int .u32 y9.s.Own, .int .u32 y9.s.Peer, .int .i64 y9.s.Phase, .bool y9.s.Leads, .int .u32 y9.s.Seq, .ro 8 (y9.s.Left.map THeader.c), .ro 8 (y9.s.Got.map THeader.c), .int .i64 y9.s.Last.MTU, .int .i64 y9.s.Last.Options, .bool y9.s.Last.Init, .bool y9.s.Last.More, .bool y9.s.Last.Master, .int .u32 y9.s.Last.Seq, .ro 8 (y9.s.Last.Heads.map THeader.c), .own 5 7 0 y9.waits.length]), (5, .row 7 29 (y9.waits.map TDesc.c))], 6⟩ (by omega) (Conv.keep [0, 1, 2, 3, 4, 5] [] [6, 7, 8, 9, 26, 27, 28] rfl rfl (viewE_cons rfl rfl (viewE_cons rfl rfl (viewE_cons rfl rfl (viewE_cons rfl rfl (viewE_cons rfl rfl (viewE_cons rfl rfl (viewE_cons rfl rfl viewE_nil))))))) rfl rfl) ⟨i28 + 1, x8, y9, (by omega), rfl, hL_15, rfl⟩
          ·rw [hb27]; try simp only [hb27, bb] at hL_15
           refine WK.condT rfl ?_
           refine WK.regx mixed ?_
           iterate 2 refine GX.m rfl ?_
           generalize hc62 : F32_exch_end_hear y9 x8 true = c62 at hL_15
           rcases c62 with _ | c62
           ·try dsimp only at hL_15
            subst hL_15
            try dsimp only at hR
            cases hR
           try dsimp only at hL_15
           obtain ⟨c62a, c62b⟩ := c62; try dsimp only at hL_15
           refine GX.callx (r' := .tup []) (heap' := [(0, .box [.int .u32 0, .int .u32 0, .int .i64 0, .bool false, .int .u32 0, .nils, .nils, .int .i64 0, .int .i64 0, .bool false, .bool false, .bool false, .int .u32 0, .nils]), (1, .box [.int .u32 0, .int .u32 0, .int .i64 0, .bool false, .int .u32 0, .nils, .nils, .int .i64 0, .int .i64 0, .bool false, .bool false, .bool false, .int .u32 0, .nils]), (2, .box [.int .u32 c62b.s.Own, .int .u32 c62b.s.Peer, .int .i64 c62b.s.Phase, .bool c62b.s.Leads, .int .u32 c62b.s.Seq, .ro 8 (c62b.s.Left.map THeader.c), .ro 8 (c62b.s.Got.map THeader.c), .int .i64 c62b.s.Last.MTU, .int .i64 c62b.s.Last.Options, .bool c62b.s.Last.Init, .bool c62b.s.Last.More, .bool c62b.s.Last.Master, .int .u32 c62b.s.Last.Seq, .ro 8 (c62b.s.Last.Heads.map THeader.c), .own 7 7 0 c62b.waits.length]), (4, .box [.int .u32 c62a.s.Own, .int .u32 c62a.s.Peer, .int .i64 c62a.s.Phase, .bool c62a.s.Leads, .int .u32 c62a.s.Seq, .ro 8 (c62a.s.Left.map THeader.c), .ro 8 (c62a.s.Got.map THeader.c), .int .i64 c62a.s.Last.MTU, .int .i64 c62a.s.Last.Options, .bool c62a.s.Last.Init, .bool c62a.s.Last.More, .bool c62a.s.Last.Master, .int .u32 c62a.s.Last.Seq, .ro 8 (c62a.s.Last.Heads.map THeader.c), .own 6 7 0 c62a.waits.length]), (7, .row 7 29 (c62b.waits.map TDesc.c)), (6, .row 7 29 (c62a.waits.map TDesc.c))]) (next' := 8) [4, 2, 5, 3] [] rfl rfl rfl rfl rfl rfl (f32_ok y9 x8 true _ hc62) (.inl rfl) rfl rfl rfl ?_
           refine GX.done ?_
           refine WK.nil (QF.normal (hK19 _ ?_))
           refine WK.nil (QF.normal (hK17 _ ?_))
           refine WK.regx mixed ?_
           refine GX.pure (v' := .int .i64 ((i28 + 1 : Nat) : Int)) rfl rfl rfl rfl (congrArg (PVal.int .i64) (wrap_up hlt15 hlen_15)) ?_
           refine GX.m rfl ?_
           refine GX.done ?_
           refine WK.nil (QF.normal ?_)
           exact hagain_15 _ (fates2.length - (i28 + 1)) ⟨[(6, .ptr 0 0), (7, .ptr 1 0), (8, .ptr 2 0), (9, .ptr 4 0), (26, .ro 1 (fates2.map c_i64)), (27, .int .i64 (fates2.length : Int)), (28, .int .i64 ((i28 + 1) : Int))], [(0, .box [.int .u32 0, .int .u32 0, .int .i64 0, .bool false, .int .u32 0, .nils, .nils, .int .i64 0, .int .i64 0, .bool false, .bool false, .bool false, .int .u32 0, .nils]), (1, .box [.int .u32 0, .int .u32 0, .int .i64 0, .bool false, .int .u32 0, .nils, .nils, .int .i64 0, .int .i64 0, .bool false, .bool false, .bool false, .int .u32 0, .nils]), (2, .box [.int .u32 c62b.s.Own, .int .u32 c62b.s.Peer, .int .i64 c62b.s.Phase, .bool c62b.s.Leads, .int .u32 c62b.s.Seq, .ro 8 (c62b.s.Left.map THeader.c), .ro 8 (c62b.s.Got.map THeader.c), .int .i64 c62b.s.Last.MTU, .int .i64 c62b.s.Last.Options, .bool c62b.s.Last.Init, .bool c62b.s.Last.More, .bool c62b.s.Last.Master, .int .u32 c62b.s.Last.Seq, .ro 8 (c62b.s.Last.Heads.map THeader.c), .own 3 7 0 c62b.waits.length]), (3, .row 7 29 (c62b.waits.map TDesc.c)), (4, .box [.int .u32 c62a.s.Own, .int .u32 c62a.s.Peer, .int .i64 c62a.s.Phase, .bool c62a.s.Leads, .int .u32 c62a.s.Seq, .ro 8 (c62a.s.Left.map THeader.c), .ro 8 (c62a.s.Got.map THeader.c), .int .i64 c62a.s.Last.MTU, .int .i64 c62a.s.Last.Options, .bool c62a.s.Last.Init, .bool c62a.s.Last.More, .bool c62a.s.Last.Master, .int .u32 c62a.s.Last.Seq, .ro 8 (c62a.s.Last.Heads.map THeader.c), .own 5 7 0 c62a.waits.length]), (5, .row 7 29 (c62a.waits.map TDesc.c))], 6⟩ (by omega) (Conv.keep [0, 1, 2, 7, 4, 6] [] [6, 7, 8, 9, 26, 27, 28] rfl rfl (viewE_cons rfl rfl (viewE_cons rfl rfl (viewE_cons rfl rfl (viewE_cons rfl rfl (viewE_cons rfl rfl (viewE_cons rfl rfl (viewE_cons rfl rfl viewE_nil))))))) rfl rfl) ⟨i28 + 1, c62b, c62a, (by omega), rfl, hL_15, rfl⟩
         ·rw [hb26]; try simp only [hb26, bb] at hL_15
          refine WK.condT rfl ?_
          refine WK.skip ?_
          refine WK.condT rfl ?_
          refine WK.regx mixed ?_
          iterate 2 refine GX.m rfl ?_
          generalize hc62 : F32_exch_end_hear y9 x8 true = c62 at hL_15
          rcases c62 with _ | c62
          ·try dsimp only at hL_15
           subst hL_15
           try dsimp only at hR
           cases hR
          try dsimp only at hL_15
          obtain ⟨c62a, c62b⟩ := c62; try dsimp only at hL_15
          refine GX.callx (r' := .tup []) (heap' := [(0, .box [.int .u32 0, .int .u32 0, .int .i64 0, .bool false, .int .u32 0, .nils, .nils, .int .i64 0, .int .i64 0, .bool false, .bool false, .bool false, .int .u32 0, .nils]), (1, .box [.int .u32 0, .int .u32 0, .int .i64 0, .bool false, .int .u32 0, .nils, .nils, .int .i64 0, .int .i64 0, .bool false, .bool false, .bool false, .int .u32 0, .nils]), (2, .box [.int .u32 c62b.s.Own, .int .u32 c62b.s.Peer, .int .i64 c62b.s.Phase, .bool c62b.s.Leads, .int .u32 c62b.s.Seq, .ro 8 (c62b.s.Left.map THeader.c), .ro 8 (c62b.s.Got.map THeader.c), .int .i64 c62b.s.Last.MTU, .int .i64 c62b.s.Last.Options, .bool c62b.s.Last.Init, .bool c62b.s.Last.More, .bool c62b.s.Last.Master, .int .u32 c62b.s.Last.Seq, .ro 8 (c62b.s.Last.Heads.map THeader.c), .own 7 7 0 c62b.waits.length]), (4, .box [.int .u32 c62a.s.Own, .int .u32 c62a.s.Peer, .int .i64 c62a.s.Phase, .bool c62a.s.Leads, .int .u32 c62a.s.Seq, .ro 8 (c62a.s.Left.map THeader.c), .ro 8 (c62a.s.Got.map THeader.c), .int .i64 c62a.s.Last.MTU, .int .i64 c62a.s.Last.Options, .bool c62a.s.Last.Init, .bool c62a.s.Last.More, .bool c62a.s.Last.Master, .int .u32 c62a.s.Last.Seq, .ro 8 (c62a.s.Last.Heads.map THeader.c), .own 6 7 0 c62a.waits.length]), (7, .row 7 29 (c62b.waits.map TDesc.c)), (6, .row 7 29 (c62a.waits.map TDesc.c))]) (next' := 8) [4, 2, 5, 3] [] rfl rfl rfl rfl rfl rfl (f32_ok y9 x8 true _ hc62) (.inl rfl) rfl rfl rfl ?_
          refine GX.done ?_
          refine WK.nil (QF.normal (hK19 _ ?_))
          refine WK.nil (QF.normal (hK17 _ ?_))
          refine WK.regx mixed ?_
          refine GX.pure (v' := .int .i64 ((i28 + 1 : Nat) : Int)) rfl rfl rfl rfl (congrArg (PVal.int .i64) (wrap_up hlt15 hlen_15)) ?_
          refine GX.m rfl ?_
          refine GX.done ?_
          refine WK.nil (QF.normal ?_)
          exact hagain_15 _ (fates2.length - (i28 + 1)) ⟨[(6, .ptr 0 0), (7, .ptr 1 0), (8, .ptr 2 0), (9, .ptr 4 0), (26, .ro 1 (fates2.map c_i64)), (27, .int .i64 (fates2.length : Int)), (28, .int .i64 ((i28 + 1) : Int))], [(0, .box [.int .u32 0, .int .u32 0, .int .i64 0, .bool false, .int .u32 0, .nils, .nils, .int .i64 0, .int .i64 0, .bool false, .bool false, .bool false, .int .u32 0, .nils]), (1, .box [.int .u32 0, .int .u32 0, .int .i64 0, .bool false, .int .u32 0, .nils, .nils, .int .i64 0, .int .i64 0, .bool false, .bool false, .bool false, .int .u32 0, .nils]), (2, .box [.int .u32 c62b.s.Own, .int .u32 c62b.s.Peer, .int .i64 c62b.s.Phase, .bool c62b.s.Leads, .int .u32 c62b.s.Seq, .ro 8 (c62b.s.Left.map THeader.c), .ro 8 (c62b.s.Got.map THeader.c), .int .i64 c62b.s.Last.MTU, .int .i64 c62b.s.Last.Options, .bool c62b.s.Last.Init, .bool c62b.s.Last.More, .bool c62b.s.Last.Master, .int .u32 c62b.s.Last.Seq, .ro 8 (c62b.s.Last.Heads.map THeader.c), .own 3 7 0 c62b.waits.length]), (3, .row 7 29 (c62b.waits.map TDesc.c)), (4, .box [.int .u32 c62a.s.Own, .int .u32 c62a.s.Peer, .int .i64 c62a.s.Phase, .bool c62a.s.Leads, .int .u32 c62a.s.Seq, .ro 8 (c62a.s.Left.map THeader.c), .ro 8 (c62a.s.Got.map THeader.c), .int .i64 c62a.s.Last.MTU, .int .i64 c62a.s.Last.Options, .bool c62a.s.Last.Init, .bool c62a.s.Last.More, .bool c62a.s.Last.Master, .int .u32 c62a.s.Last.Seq, .ro 8 (c62a.s.Last.Heads.map THeader.c), .own 5 7 0 c62a.waits.length]), (5, .row 7 29 (c62a.waits.map TDesc.c))], 6⟩ (by omega) (Conv.keep [0, 1, 2, 7, 4, 6] [] [6, 7, 8, 9, 26, 27, 28] rfl rfl (viewE_cons rfl rfl (viewE_cons rfl rfl (viewE_cons rfl rfl (viewE_cons rfl rfl (viewE_cons rfl rfl (viewE_cons rfl rfl (viewE_cons rfl rfl viewE_nil))))))) rfl rfl) ⟨i28 + 1, c62b, c62a, (by omega), rfl, hL_15, rfl⟩
        ·rw [hb25]; try simp only [hb25, bb] at hL_15
         refine WK.condT rfl ?_
         refine WK.regx mixed ?_
         iterate 2 refine GX.m rfl ?_
         generalize hc56 : F34_exch_end_remind y9 x8 = c56 at hL_15
         rcases c56 with _ | c56
         ·try dsimp only at hL_15
          subst hL_15
          try dsimp only at hR
          cases hR
         try dsimp only at hL_15
         obtain ⟨c56a, c56b⟩ := c56; try dsimp only at hL_15
         refine GX.callx (r' := .tup []) (heap' := [(0, .box [.int .u32 0, .int .u32 0, .int .i64 0, .bool false, .int .u32 0, .nils, .nils, .int .i64 0, .int .i64 0, .bool false, .bool false, .bool false, .int .u32 0, .nils]), (1, .box [.int .u32 0, .int .u32 0, .int .i64 0, .bool false, .int .u32 0, .nils, .nils, .int .i64 0, .int .i64 0, .bool false, .bool false, .bool false, .int .u32 0, .nils]), (2, .box [.int .u32 c56b.s.Own, .int .u32 c56b.s.Peer, .int .i64 c56b.s.Phase, .bool c56b.s.Leads, .int .u32 c56b.s.Seq, .ro 8 (c56b.s.Left.map THeader.c), .ro 8 (c56b.s.Got.map THeader.c), .int .i64 c56b.s.Last.MTU, .int .i64 c56b.s.Last.Options, .bool c56b.s.Last.Init, .bool c56b.s.Last.More, .bool c56b.s.Last.Master, .int .u32 c56b.s.Last.Seq, .ro 8 (c56b.s.Last.Heads.map THeader.c), .own 7 7 0 c56b.waits.length]), (4, .box [.int .u32 c56a.s.Own, .int .u32 c56a.s.Peer, .int .i64 c56a.s.Phase, .bool c56a.s.Leads, .int .u32 c56a.s.Seq, .ro 8 (c56a.s.Left.map THeader.c), .ro 8 (c56a.s.Got.map THeader.c), .int .i64 c56a.s.Last.MTU, .int .i64 c56a.s.Last.Options, .bool c56a.s.Last.Init, .bool c56a.s.Last.More, .bool c56a.s.Last.Master, .int .u32 c56a.s.Last.Seq, .ro 8 (c56a.s.Last.Heads.map THeader.c), .own 6 7 0 c56a.waits.length]), (7, .row 7 29 (c56b.waits.map TDesc.c)), (6, .row 7 29 (c56a.waits.map TDesc.c))]) (next' := 8) [4, 2, 5, 3] [] rfl rfl rfl rfl rfl rfl (f34_ok y9 x8 _ hc56) (.inl rfl) rfl rfl rfl ?_
         refine GX.done ?_
         refine WK.nil (QF.normal (hK19 _ ?_))
         refine WK.nil (QF.normal (hK17 _ ?_))
         refine WK.regx mixed ?_
         refine GX.pure (v' := .int .i64 ((i28 + 1 : Nat) : Int)) rfl rfl rfl rfl (congrArg (PVal.int .i64) (wrap_up hlt15 hlen_15)) ?_
         refine GX.m rfl ?_
         refine GX.done ?_
         refine WK.nil (QF.normal ?_)
         exact hagain_15 _ (fates2.length - (i28 + 1)) ⟨[(6, .ptr 0 0), (7, .ptr 1 0), (8, .ptr 2 0), (9, .ptr 4 0), (26, .ro 1 (fates2.map c_i64)), (27, .int .i64 (fates2.length : Int)), (28, .int .i64 ((i28 + 1) : Int))], [(0, .box [.int .u32 0, .int .u32 0, .int .i64 0, .bool false, .int .u32 0, .nils, .nils, .int .i64 0, .int .i64 0, .bool false, .bool false, .bool false, .int .u32 0, .nils]), (1, .box [.int .u32 0, .int .u32 0, .int .i64 0, .bool false, .int .u32 0, .nils, .nils, .int .i64 0, .int .i64 0, .bool false, .bool false, .bool false, .int .u32 0, .nils]), (2, .box [.int .u32 c56b.s.Own, .int .u32 c56b.s.Peer, .int .i64 c56b.s.Phase, .bool c56b.s.Leads, .int .u32 c56b.s.Seq, .ro 8 (c56b.s.Left.map THeader.c), .ro 8 (c56b.s.Got.map THeader.c), .int .i64 c56b.s.Last.MTU, .int .i64 c56b.s.Last.Options, .bool c56b.s.Last.Init, .bool c56b.s.Last.More, .bool c56b.s.Last.Master, .int .u32 c56b.s.Last.Seq, .ro 8 (c56b.s.Last.Heads.map THeader.c), .own 3 7 0 c56b.waits.length]), (3, .row 7 29 (c56b.waits.map TDesc.c)), (4, .box [.int .u32 c56a.s.Own, .int .u32 c56a.s.Peer, .int .i64 c56a.s.Phase, .bool c56a.s.Leads, .int .u32 c56a.s.Seq, .ro 8 (c56a.s.Left.map THeader.c), .ro 8 (c56a.s.Got.map THeader.c), .int .i64 c56a.s.Last.MTU, .int .i64 c56a.s.Last.Options, .bool c56a.s.Last.Init, .bool c56a.s.Last.More, .bool c56a.s.Last.Master, .int .u32 c56a.s.Last.Seq, .ro 8 (c56a.s.Last.Heads.map THeader.c), .own 5 7 0 c56a.waits.length]), (5, .row 7 29 (c56a.waits.map TDesc.c))], 6⟩ (by omega) (Conv.keep [0, 1, 2, 7, 4, 6] [] [6, 7, 8, 9, 26, 27, 28] rfl rfl (viewE_cons rfl rfl (viewE_cons rfl rfl (viewE_cons rfl rfl (viewE_cons rfl rfl (viewE_cons rfl rfl (viewE_cons rfl rfl (viewE_cons rfl rfl viewE_nil))))))) rfl rfl) ⟨i28 + 1, c56b, c56a, (by omega), rfl, hL_15, rfl⟩
       ·rw [hb24]; try simp only [hb24, bb] at hL_15
        refine WK.condT rfl ?_
        refine WK.skip ?_
        refine WK.condT rfl ?_
        refine WK.regx mixed ?_
        iterate 2 refine GX.m rfl ?_
        generalize hc56 : F34_exch_end_remind y9 x8 = c56 at hL_15
        rcases c56 with _ | c56
        ·try dsimp only at hL_15
         subst hL_15
         try dsimp only at hR
         cases hR
        try dsimp only at hL_15
        obtain ⟨c56a, c56b⟩ := c56; try dsimp only at hL_15
        refine GX.callx (r' := .tup []) (heap' := [(0, .box [.int .u32 0, .int .u32 0, .int .i64 0, .bool false, .int .u32 0, .nils, .nils, .int .i64 0, .int .i64 0, .bool false, .bool false, .bool false, .int .u32 0, .nils]), (1, .box [.int .u32 0, .int .u32 0, .int .i64 0, .bool false, .int .u32 0, .nils, .nils, .int .i64 0, .int .i64 0, .bool false, .bool false, .bool false, .int .u32 0, .nils]), (2, .box [.int .u32 c56b.s.Own, .int .u32 c56b.s.Peer, .int .i64 c56b.s.Phase, .bool c56b.s.Leads, .int .u32 c56b.s.Seq, .ro 8 (c56b.s.Left.map THeader.c), .ro 8 (c56b.s.Got.map THeader.c), .int .i64 c56b.s.Last.MTU, .int .i64 c56b.s.Last.Options, .bool c56b.s.Last.Init, .bool c56b.s.Last.More, .bool c56b.s.Last.Master, .int .u32 c56b.s.Last.Seq, .ro 8 (c56b.s.Last.Heads.map THeader.c), .own 7 7 0 c56b.waits.length]), (4, .box [.int .u32 c56a.s.Own, .int .u32 c56a.s.Peer, .int .i64 c56a.s.Phase, .bool c56a.s.Leads, .int .u32 c56a.s.Seq, .ro 8 (c56a.s.Left.map THeader.c), .ro 8 (c56a.s.Got.map THeader.c), .int .i64 c56a.s.Last.MTU, .int .i64 c56a.s.Last.Options, .bool c56a.s.Last.Init, .bool c56a.s.Last.More, .bool c56a.s.Last.Master, .int .u32 c56a.s.Last.Seq, .ro 8 (c56a.s.Last.Heads.map THeader.c), .own 6 7 0 c56a.waits.length]), (7, .row 7 29 (c56b.waits.map TDesc.c)), (6, .row 7 29 (c56a.waits.map TDesc.c))]) (next' := 8) [4, 2, 5, 3] [] rfl rfl rfl rfl rfl rfl (f34_ok y9 x8 _ hc56) (.inl rfl) rfl rfl rfl ?_
        refine GX.done ?_
        refine WK.nil (QF.normal (hK19 _ ?_))
        refine WK.nil (QF.normal (hK17 _ ?_))
        refine WK.regx mixed ?_
        refine GX.pure (v' := .int .i64 ((i28 + 1 : Nat) : Int)) rfl rfl rfl rfl (congrArg (PVal.int .i64) (wrap_up hlt15 hlen_15)) ?_
        refine GX.m rfl ?_
        refine GX.done ?_
        refine WK.nil (QF.normal ?_)
        exact hagain_15 _ (fates2.length - (i28 + 1)) ⟨[(6, .ptr 0 0), (7, .ptr 1 0), (8, .ptr 2 0), (9, .ptr 4 0), (26, .ro 1 (fates2.map c_i64)), (27, .int .i64 (fates2.length : Int)), (28, .int .i64 ((i28 + 1) : Int))], [(0, .box [.int .u32 0, .int .u32 0, .int .i64 0, .bool false, .int .u32 0, .nils, .nils, .int .i64 0, .int .i64 0, .bool false, .bool false, .bool false, .int .u32 0, .nils]), (1, .box [.int .u32 0, .int .u32 0, .int .i64 0, .bool false, .int .u32 0, .nils, .nils, .int .i64 0, .int .i64 0, .bool false, .bool false, .bool false, .int .u32 0, .nils]), (2, .box [.int .u32 c56b.s.Own, .int .u32 c56b.s.Peer, .int .i64 c56b.s.Phase, .bool c56b.s.Leads, .int .u32 c56b.s.Seq, .ro 8 (c56b.s.Left.map THeader.c), .ro 8 (c56b.s.Got.map THeader.c), .int .i64 c56b.s.Last.MTU, .int .i64 c56b.s.Last.Options, .bool c56b.s.Last.Init, .bool c56b.s.Last.More, .bool c56b.s.Last.Master, .int .u32 c56b.s.Last.Seq, .ro 8 (c56b.s.Last.Heads.map THeader.c), .own 3 7 0 c56b.waits.length]), (3, .row 7 29 (c56b.waits.map TDesc.c)), (4, .box [.int .u32 c56a.s.Own, .int .u32 c56a.s.Peer, .int .i64 c56a.s.Phase, .bool c56a.s.Leads, .int .u32 c56a.s.Seq, .ro 8 (c56a.s.Left.map THeader.c), .ro 8 (c56a.s.Got.map THeader.c), .int .i64 c56a.s.Last.MTU, .int .i64 c56a.s.Last.Options, .bool c56a.s.Last.Init, .bool c56a.s.Last.More, .bool c56a.s.Last.Master, .int .u32 c56a.s.Last.Seq, .ro 8 (c56a.s.Last.Heads.map THeader.c), .own 5 7 0 c56a.waits.length]), (5, .row 7 29 (c56a.waits.map TDesc.c))], 6⟩ (by omega) (Conv.keep [0, 1, 2, 7, 4, 6] [] [6, 7, 8, 9, 26, 27, 28] rfl rfl (viewE_cons rfl rfl (viewE_cons rfl rfl (viewE_cons rfl rfl (viewE_cons rfl rfl (viewE_cons rfl rfl (viewE_cons rfl rfl (viewE_cons rfl rfl viewE_nil))))))) rfl rfl) ⟨i28 + 1, c56b, c56a, (by omega), rfl, hL_15, rfl⟩
      ·rw [hb23]; try simp only [hb23, bb] at hL_15
       refine WK.condT rfl ?_
       refine WK.regx mixed ?_
       refine GX.m rfl ?_
       generalize hc50 : F33_exch_end_next y9 false = c50 at hL_15
       rcases c50 with _ | c50
       ·try dsimp only at hL_15
        subst hL_15
        try dsimp only at hR
        cases hR
       try dsimp only at hL_15
       obtain ⟨c50a, c50b, c50c⟩ := c50; try dsimp only at hL_15
       refine GX.callx (r' := .tup [.agg (TDesc.c c50a), .bool c50b]) (heap' := [(0, .box [.int .u32 0, .int .u32 0, .int .i64 0, .bool false, .int .u32 0, .nils, .nils, .int .i64 0, .int .i64 0, .bool false, .bool false, .bool false, .int .u32 0, .nils]), (1, .box [.int .u32 0, .int .u32 0, .int .i64 0, .bool false, .int .u32 0, .nils, .nils, .int .i64 0, .int .i64 0, .bool false, .bool false, .bool false, .int .u32 0, .nils]), (2, .box [.int .u32 x8.s.Own, .int .u32 x8.s.Peer, .int .i64 x8.s.Phase, .bool x8.s.Leads, .int .u32 x8.s.Seq, .ro 8 (x8.s.Left.map THeader.c), .ro 8 (x8.s.Got.map THeader.c), .int .i64 x8.s.Last.MTU, .int .i64 x8.s.Last.Options, .bool x8.s.Last.Init, .bool x8.s.Last.More, .bool x8.s.Last.Master, .int .u32 x8.s.Last.Seq, .ro 8 (x8.s.Last.Heads.map THeader.c), .own 3 7 0 x8.waits.length]), (3, .row 7 29 (x8.waits.map TDesc.c)), (4, .box [.int .u32 c50c.s.Own, .int .u32 c50c.s.Peer, .int .i64 c50c.s.Phase, .bool c50c.s.Leads, .int .u32 c50c.s.Seq, .ro 8 (c50c.s.Left.map THeader.c), .ro 8 (c50c.s.Got.map THeader.c), .int .i64 c50c.s.Last.MTU, .int .i64 c50c.s.Last.Options, .bool c50c.s.Last.Init, .bool c50c.s.Last.More, .bool c50c.s.Last.Master, .int .u32 c50c.s.Last.Seq, .ro 8 (c50c.s.Last.Heads.map THeader.c), .own 6 7 0 c50c.waits.length]), (6, .row 7 29 (c50c.waits.map TDesc.c))]) (next' := 7) [4, 5] [] rfl rfl rfl rfl rfl rfl (f33_ok y9 false _ hc50) (.inl rfl) rfl rfl rfl ?_
       refine GX.done ?_
       refine WK.nil (QF.normal (hK19 _ ?_))
       refine WK.nil (QF.normal (hK17 _ ?_))
       refine WK.regx mixed ?_
       refine GX.pure (v' := .int .i64 ((i28 + 1 : Nat) : Int)) rfl rfl rfl rfl (congrArg (PVal.int .i64) (wrap_up hlt15 hlen_15)) ?_
       refine GX.m rfl ?_
       refine GX.done ?_
       refine WK.nil (QF.normal ?_)
       exact hagain_15 _ (fates2.length - (i28 + 1)) ⟨[(6, .ptr 0 0), (7, .ptr 1 0), (8, .ptr 2 0), (9, .ptr 4 0), (26, .ro 1 (fates2.map c_i64)), (27, .int .i64 (fates2.length : Int)), (28, .int .i64 ((i28 + 1) : Int))], [(0, .box [.int .u32 0, .int .u32 0, .int .i64 0, .bool false, .int .u32 0, .nils, .nils, .int .i64 0, .int .i64 0, .bool false, .bool false, .bool false, .int .u32 0, .nils]), (1, .box [.int .u32 0, .int .u32 0, .int .i64 0, .bool false, .int .u32 0, .nils, .nils, .int .i64 0, .int .i64 0, .bool false, .bool false, .bool false, .int .u32 0, .nils]), (2, .box [.int .u32 x8.s.Own, .int .u32 x8.s.Peer, .int .i64 x8.s.Phase, .bool x8.s.Leads, .int .u32 x8.s.Seq, .ro 8 (x8.s.Left.map THeader.c), .ro 8 (x8.s.Got.map THeader.c), .int .i64 x8.s.Last.MTU, .int .i64 x8.s.Last.Options, .bool x8.s.Last.Init, .bool x8.s.Last.More, .bool x8.s.Last.Master, .int .u32 x8.s.Last.Seq, .ro 8 (x8.s.Last.Heads.map THeader.c), .own 3 7 0 x8.waits.length]), (3, .row 7 29 (x8.waits.map TDesc.c)), (4, .box [.int .u32 c50c.s.Own, .int .u32 c50c.s.Peer, .int .i64 c50c.s.Phase, .bool c50c.s.Leads, .int .u32 c50c.s.Seq, .ro 8 (c50c.s.Left.map THeader.c), .ro 8 (c50c.s.Got.map THeader.c), .int .i64 c50c.s.Last.MTU, .int .i64 c50c.s.Last.Options, .bool c50c.s.Last.Init, .bool c50c.s.Last.More, .bool c50c.s.Last.Master, .int .u32 c50c.s.Last.Seq, .ro 8 (c50c.s.Last.Heads.map THeader.c), .own 5 7 0 c50c.waits.length]), (5, .row 7 29 (c50c.waits.map TDesc.c))], 6⟩ (by omega) (Conv.keep [0, 1, 2, 3, 4, 6] [] [6, 7, 8, 9, 26, 27, 28] rfl rfl (viewE_cons rfl rfl (viewE_cons rfl rfl (viewE_cons rfl rfl (viewE_cons rfl rfl (viewE_cons rfl rfl (viewE_cons rfl rfl (viewE_cons rfl rfl viewE_nil))))))) rfl rfl) ⟨i28 + 1, x8, c50c, (by omega), rfl, hL_15, rfl⟩
     ·rw [hb22]; try simp only [hb22, bb] at hL_15
      refine WK.condT rfl ?_
      refine WK.skip ?_
      refine WK.condT rfl ?_
      refine WK.regx mixed ?_
      refine GX.m rfl ?_
      generalize hc50 : F33_exch_end_next y9 false = c50 at hL_15
      rcases c50 with _ | c50
      ·try dsimp only at hL_15
       subst hL_15
       try dsimp only at hR
       cases hR
      try dsimp only at hL_15
      obtain ⟨c50a, c50b, c50c⟩ := c50; try dsimp only at hL_15
      refine GX.callx (r' := .tup [.agg (TDesc.c c50a), .bool c50b]) (heap' := [(0, .box [.int .u32 0, .int .u32 0, .int .i64 0, .bool false, .int .u32 0, .nils, .nils, .int .i64 0, .int .i64 0, .bool false, .bool false, .bool false, .int .u32 0, .nils]), (1, .box [.int .u32 0, .int .u32 0, .int .i64 0, .bool false, .int .u32 0, .nils, .nils, .int .i64 0, .int .i64 0, .bool false, .bool false, .bool false, .int .u32 0, .nils]), (2, .box [.int .u32 x8.s.Own, .int .u32 x8.s.Peer, .int .i64 x8.s.Phase, .bool x8.s.Leads, .int .u32 x8.s.Seq, .ro 8 (x8.s.Left.map THeader.c), .ro 8 (x8.s.Got.map THeader.c), .int .i64 x8.s.Last.MTU, .int .i64 x8.s.Last.Options, .bool x8.s.Last.Init, .bool x8.s.Last.More, .bool x8.s.Last.Master, .int .u32 x8.s.Last.Seq, .ro 8 (x8.s.Last.Heads.map THeader.c), .own 3 7 0 x8.waits.length]), (3, .row 7 29 (x8.waits.map TDesc.c)), (4, .box [.int .u32 c50c.s.Own, .int .u32 c50c.s.Peer, .int .i64 c50c.s.Phase, .bool c50c.s.Leads, .int .u32 c50c.s.Seq, .ro 8 (c50c.s.Left.map THeader.c), .ro 8 (c50c.s.Got.map THeader.c), .int .i64 c50c.s.Last.MTU, .int .i64 c50c.s.Last.Options, .bool c50c.s.Last.Init, .bool c50c.s.Last.More, .bool c50c.s.Last.Master, .int .u32 c50c.s.Last.Seq, .ro 8 (c50c.s.Last.Heads.map THeader.c), .own 6 7 0 c50c.waits.length]), (6, .row 7 29 (c50c.waits.map TDesc.c))]) (next' := 7) [4, 5] [] rfl rfl rfl rfl rfl rfl (f33_ok y9 false _ hc50) (.inl rfl) rfl rfl rfl ?_
      refine GX.done ?_
      refine WK.nil (QF.normal (hK19 _ ?_))
      refine WK.nil (QF.normal (hK17 _ ?_))
      refine WK.regx mixed ?_
      refine GX.pure (v' := .int .i64 ((i28 + 1 : Nat) : Int)) rfl rfl rfl rfl (congrArg (PVal.int .i64) (wrap_up hlt15 hlen_15)) ?_
      refine GX.m rfl ?_
      refine GX.done ?_
      refine WK.nil (QF.normal ?_)
      exact hagain_15 _ (fates2.length - (i28 + 1)) ⟨[(6, .ptr 0 0), (7, .ptr 1 0), (8, .ptr 2 0), (9, .ptr 4 0), (26, .ro 1 (fates2.map c_i64)), (27, .int .i64 (fates2.length : Int)), (28, .int .i64 ((i28 + 1) : Int))], [(0, .box [.int .u32 0, .int .u32 0, .int .i64 0, .bool false, .int .u32 0, .nils, .nils, .int .i64 0, .int .i64 0, .bool false, .bool false, .bool false, .int .u32 0, .nils]), (1, .box [.int .u32 0, .int .u32 0, .int .i64 0, .bool false, .int .u32 0, .nils, .nils, .int .i64 0, .int .i64 0, .bool false, .bool false, .bool false, .int .u32 0, .nils]), (2, .box [.int .u32 x8.s.Own, .int .u32 x8.s.Peer, .int .i64 x8.s.Phase, .bool x8.s.Leads, .int .u32 x8.s.Seq, .ro 8 (x8.s.Left.map THeader.c), .ro 8 (x8.s.Got.map THeader.c), .int .i64 x8.s.Last.MTU, .int .i64 x8.s.Last.Options, .bool x8.s.Last.Init, .bool x8.s.Last.More, .bool x8.s.Last.Master, .int .u32 x8.s.Last.Seq, .ro 8 (x8.s.Last.Heads.map THeader.c), .own 3 7 0 x8.waits.length]), (3, .row 7 29 (x8.waits.map TDesc.c)), (4, .box [.int .u32 c50c.s.Own, .int .u32 c50c.s.Peer, .int .i64 c50c.s.Phase, .bool c50c.s.Leads, .int .u32 c50c.s.Seq, .ro 8 (c50c.s.Left.map THeader.c), .ro 8 (c50c.s.Got.map THeader.c), .int .i64 c50c.s.Last.MTU, .int .i64 c50c.s.Last.Options, .bool c50c.s.Last.Init, .bool c50c.s.Last.More, .bool c50c.s.Last.Master, .int .u32 c50c.s.Last.Seq, .ro 8 (c50c.s.Last.Heads.map THeader.c), .own 5 7 0 c50c.waits.length]), (5, .row 7 29 (c50c.waits.map TDesc.c))], 6⟩ (by omega) (Conv.keep [0, 1, 2, 3, 4, 6] [] [6, 7, 8, 9, 26, 27, 28] rfl rfl (viewE_cons rfl rfl (viewE_cons rfl rfl (viewE_cons rfl rfl (viewE_cons rfl rfl (viewE_cons rfl rfl (viewE_cons rfl rfl (viewE_cons rfl rfl viewE_nil))))))) rfl rfl) ⟨i28 + 1, x8, c50c, (by omega), rfl, hL_15, rfl⟩
    ·rw [hb21]; try simp only [hb21, bb] at hL_15
     refine WK.condT rfl ?_
     refine WK.regx mixed ?_
     iterate 2 refine GX.m rfl ?_
     generalize hc45 : F32_exch_end_hear y9 x8 false = c45 at hL_15
     rcases c45 with _ | c45
     ·try dsimp only at hL_15
      subst hL_15
      try dsimp only at hR
      cases hR
     try dsimp only at hL_15
     obtain ⟨c45a, c45b⟩ := c45; try dsimp only at hL_15
     refine GX.callx (r' := .tup []) (heap' := [(0, .box [.int .u32 0, .int .u32 0, .int .i64 0, .bool false, .int .u32 0, .nils, .nils, .int .i64 0, .int .i64 0, .bool false, .bool false, .bool false, .int .u32 0, .nils]), (1, .box [.int .u32 0, .int .u32 0, .int .i64 0, .bool false, .int .u32 0, .nils, .nils, .int .i64 0, .int .i64 0, .bool false, .bool false, .bool false, .int .u32 0, .nils]), (2, .box [.int .u32 c45b.s.Own, .int .u32 c45b.s.Peer, .int .i64 c45b.s.Phase, .bool c45b.s.Leads, .int .u32 c45b.s.Seq, .ro 8 (c45b.s.Left.map THeader.c), .ro 8 (c45b.s.Got.map THeader.c), .int .i64 c45b.s.Last.MTU, .int .i64 c45b.s.Last.Options, .bool c45b.s.Last.Init, .bool c45b.s.Last.More, .bool c45b.s.Last.Master, .int .u32 c45b.s.Last.Seq, .ro 8 (c45b.s.Last.Heads.map THeader.c), .own 7 7 0 c45b.waits.length]), (4, .box [.int .u32 c45a.s.Own, .int .u32 c45a.s.Peer, .int .i64 c45a.s.Phase, .bool c45a.s.Leads, .int .u32 c45a.s.Seq, .ro 8 (c45a.s.Left.map THeader.c), .ro 8 (c45a.s.Got.map THeader.c), .int .i64 c45a.s.Last.MTU, .int .i64 c45a.s.Last.Options, .bool c45a.s.Last.Init, .bool c45a.s.Last.More, .bool c45a.s.Last.Master, .int .u32 c45a.s.Last.Seq, .ro 8 (c45a.s.Last.Heads.map THeader.c), .own 6 7 0 c45a.waits.length]), (7, .row 7 29 (c45b.waits.map TDesc.c)), (6, .row 7 29 (c45a.waits.map TDesc.c))]) (next' := 8) [4, 2, 5, 3] [] rfl rfl rfl rfl rfl rfl (f32_ok y9 x8 false _ hc45) (.inl rfl) rfl rfl rfl ?_
     refine GX.done ?_
     refine WK.nil (QF.normal (hK19 _ ?_))
     refine WK.nil (QF.normal (hK17 _ ?_))
     refine WK.regx mixed ?_
     refine GX.pure (v' := .int .i64 ((i28 + 1 : Nat) : Int)) rfl rfl rfl rfl (congrArg (PVal.int .i64) (wrap_up hlt15 hlen_15)) ?_
     refine GX.m rfl ?_
     refine GX.done ?_
     refine WK.nil (QF.normal ?_)
     exact hagain_15 _ (fates2.length - (i28 + 1)) ⟨[(6, .ptr 0 0), (7, .ptr 1 0), (8, .ptr 2 0), (9, .ptr 4 0), (26, .ro 1 (fates2.map c_i64)), (27, .int .i64 (fates2.length : Int)), (28, .int .i64 ((i28 + 1) : Int))], [(0, .box [.int .u32 0, .int .u32 0, .int .i64 0, .bool false, .int .u32 0, .nils, .nils, .int .i64 0, .int .i64 0, .bool false, .bool false, .bool false, .int .u32 0, .nils]), (1, .box [.int .u32 0, .int .u32 0, .int .i64 0, .bool false, .int .u32 0, .nils, .nils, .int .i64 0, .int .i64 0, .bool false, .bool false, .bool false, .int .u32 0, .nils]), (2, .box [.int .u32 c45b.s.Own, .int .u32 c45b.s.Peer, .int .i64 c45b.s.Phase, .bool c45b.s.Leads, .int .u32 c45b.s.Seq, .ro 8 (c45b.s.Left.map THeader.c), .ro 8 (c45b.s.Got.map THeader.c), .int .i64 c45b.s.Last.MTU, .int .i64 c45b.s.Last.Options, .bool c45b.s.Last.Init, .bool c45b.s.Last.More, .bool c45b.s.Last.Master, .int .u32 c45b.s.Last.Seq, .ro 8 (c45b.s.Last.Heads.map THeader.c), .own 3 7 0 c45b.waits.length]), (3, .row 7 29 (c45b.waits.map TDesc.c)), (4, .box [.int .u32 c45a.s.Own, .int .u32 c45a.s.Peer, .int .i64 c45a.s.Phase, .bool c45a.s.Leads, .int .u32 c45a.s.Seq, .ro 8 (c45a.s.Left.map THeader.c), .ro 8 (c45a.s.Got.map THeader.c), .int .i64 c45a.s.Last.MTU, .int .i64 c45a.s.Last.Options, .bool c45a.s.Last.Init, .bool c45a.s.Last.More, .bool c45a.s.Last.Master, .int .u32 c45a.s.Last.Seq, .ro 8 (c45a.s.Last.Heads.map THeader.c), .own 5 7 0 c45a.waits.length]), (5, .row 7 29 (c45a.waits.map TDesc.c))], 6⟩ (by omega) (Conv.keep [0, 1, 2, 7, 4, 6] [] [6, 7, 8, 9, 26, 27, 28] rfl rfl (viewE_cons rfl rfl (viewE_cons rfl rfl (viewE_cons rfl rfl (viewE_cons rfl rfl (viewE_cons rfl rfl (viewE_cons rfl rfl (viewE_cons rfl rfl viewE_nil))))))) rfl rfl) ⟨i28 + 1, c45b, c45a, (by omega), rfl, hL_15, rfl⟩
   ·rw [hb20]; try simp only [hb20, bb] at hL_15
    refine WK.condT rfl ?_
    refine WK.skip ?_
    refine WK.condT rfl ?_
    refine WK.regx mixed ?_
    iterate 2 refine GX.m rfl ?_
    generalize hc45 : F32_exch_end_hear y9 x8 false = c45 at hL_15
    rcases c45 with _ | c45
    ·try dsimp only at hL_15
     subst hL_15
     try dsimp only at hR
     cases hR
    try dsimp only at hL_15
    obtain ⟨c45a, c45b⟩ := c45; try dsimp only at hL_15
    refine GX.callx (r' := .tup []) (heap' := [(0, .box [.int .u32 0, .int .u32 0, .int .i64 0, .bool false, .int .u32 0, .nils, .nils, .int .i64 0, .int .i64 0, .bool false, .bool false, .bool false, .int .u32 0, .nils]), (1, .box [.int .u32 0, .int .u32 0, .int .i64 0, .bool false, .int .u32 0, .nils, .nils, .int .i64 0, .int .i64 0, .bool false, .bool false, .bool false, .int .u32 0, .nils]), (2, .box [.int .u32 c45b.s.Own, .int .u32 c45b.s.Peer, .int .i64 c45b.s.Phase, .bool c45b.s.Leads, .int .u32 c45b.s.Seq, .ro 8 (c45b.s.Left.map THeader.c), .ro 8 (c45b.s.Got.map THeader.c), .int .i64 c45b.s.Last.MTU, .int .i64 c45b.s.Last.Options, .bool c45b.s.Last.Init, .bool c45b.s.Last.More, .bool c45b.s.Last.Master, .int .u32 c45b.s.Last.Seq, .ro 8 (c45b.s.Last.Heads.map THeader.c), .own 7 7 0 c45b.waits.length]), (4, .box [.int .u32 c45a.s.Own, .int .u32 c45a.s.Peer, .int .i64 c45a.s.Phase, .bool c45a.s.Leads, .int .u32 c45a.s.Seq, .ro 8 (c45a.s.Left.map THeader.c), .ro 8 (c45a.s.Got.map THeader.c), .int .i64 c45a.s.Last.MTU, .int .i64 c45a.s.Last.Options, .bool c45a.s.Last.Init, .bool c45a.s.Last.More, .bool c45a.s.Last.Master, .int .u32 c45a.s.Last.Seq, .ro 8 (c45a.s.Last.Heads.map THeader.c), .own 6 7 0 c45a.waits.length]), (7, .row 7 29 (c45b.waits.map TDesc.c)), (6, .row 7 29 (c45a.waits.map TDesc.c))]) (next' := 8) [4, 2, 5, 3] [] rfl rfl rfl rfl rfl rfl (f32_ok y9 x8 false _ hc45) (.inl rfl) rfl rfl rfl ?_
    refine GX.done ?_
    refine WK.nil (QF.normal (hK19 _ ?_))
    refine WK.nil (QF.normal (hK17 _ ?_))
    refine WK.regx mixed ?_
    refine GX.pure (v' := .int .i64 ((i28 + 1 : Nat) : Int)) rfl rfl rfl rfl (congrArg (PVal.int .i64) (wrap_up hlt15 hlen_15)) ?_
    refine GX.m rfl ?_
    refine GX.done ?_
    refine WK.nil (QF.normal ?_)
    exact hagain_15 _ (fates2.length - (i28 + 1)) ⟨[(6, .ptr 0 0), (7, .ptr 1 0), (8, .ptr 2 0), (9, .ptr 4 0), (26, .ro 1 (fates2.map c_i64)), (27, .int .i64 (fates2.length : Int)), (28, .int .i64 ((i28 + 1) : Int))], [(0, .box [.int .u32 0, .int .u32 0, .int .i64 0, .bool false, .int .u32 0, .nils, .nils, .int .i64 0, .int .i64 0, .bool false, .bool false, .bool false, .int .u32 0, .nils]), (1, .box [.int .u32 0, .int .u32 0, .int .i64 0, .bool false, .int .u32 0, .nils, .nils, .int .i64 0, .int .i64 0, .bool false, .bool false, .bool false, .int .u32 0, .nils]), (2, .box [.int .u32 c45b.s.Own, .int .u32 c45b.s.Peer, .int .i64 c45b.s.Phase, .bool c45b.s.Leads, .int .u32 c45b.s.Seq, .ro 8 (c45b.s.Left.map THeader.c), .ro 8 (c45b.s.Got.map THeader.c), .int .i64 c45b.s.Last.MTU, .int .i64 c45b.s.Last.Options, .bool c45b.s.Last.Init, .bool c45b.s.Last.More, .bool c45b.s.Last.Master, .int .u32 c45b.s.Last.Seq, .ro 8 (c45b.s.Last.Heads.map THeader.c), .own 3 7 0 c45b.waits.length]), (3, .row 7 29 (c45b.waits.map TDesc.c)), (4, .box [.int .u32 c45a.s.Own, .int .u32 c45a.s.Peer, .int .i64 c45a.s.Phase, .bool c45a.s.Leads, .int .u32 c45a.s.Seq, .ro 8 (c45a.s.Left.map THeader.c), .ro 8 (c45a.s.Got.map THeader.c), .int .i64 c45a.s.Last.MTU, .int .i64 c45a.s.Last.Options, .bool c45a.s.Last.Init, .bool c45a.s.Last.More, .bool c45a.s.Last.Master, .int .u32 c45a.s.Last.Seq, .ro 8 (c45a.s.Last.Heads.map THeader.c), .own 5 7 0 c45a.waits.length]), (5, .row 7 29 (c45a.waits.map TDesc.c))], 6⟩ (by omega) (Conv.keep [0, 1, 2, 7, 4, 6] [] [6, 7, 8, 9, 26, 27, 28] rfl rfl (viewE_cons rfl rfl (viewE_cons rfl rfl (viewE_cons rfl rfl (viewE_cons rfl rfl (viewE_cons rfl rfl (viewE_cons rfl rfl (viewE_cons rfl rfl viewE_nil))))))) rfl rfl) ⟨i28 + 1, c45b, c45a, (by omega), rfl, hL_15, rfl⟩
  ·rw [hb18]; try simp only [hb18, bb] at hL_15
   refine WK.condF rfl ?_
   refine WK.skip ?_
   refine WK.sr mixed ?_
   refine GX.m rfl ?_
   refine GX.done ?_
   refine WK.blockK (fun _ hK36 => ?_)
   refine WK.seq ?_
   refine WK.sr mixed ?_
   refine GX.q (.bool (decide (x28 = 0))) ?_
   refine GX.m rfl ?_
   refine GX.done ?_
   rcases bool_two (decide (x28 = 0)) with hb37 | hb37
   ·rw [hb37]; try simp only [hb37, bb] at hL_15
    refine WK.condF rfl ?_
    refine WK.regx mixed ?_
    refine GX.q (.bool (decide (x28 = 1))) ?_
    refine GX.m rfl ?_
    refine GX.done ?_
    rcases bool_two (decide (x28 = 1)) with hb38 | hb38
    ·rw [hb38]; try simp only [hb38, bb] at hL_15
     refine WK.condF rfl ?_
     refine WK.seq ?_
     refine WK.sr mixed ?_
     refine GX.q (.bool (decide (x28 = 2))) ?_
     refine GX.m rfl ?_
     refine GX.done ?_
     rcases bool_two (decide (x28 = 2)) with hb39 | hb39
     ·rw [hb39]; try simp only [hb39, bb] at hL_15
      refine WK.condF rfl ?_
      refine WK.regx mixed ?_
      refine GX.q (.bool (decide (x28 = 3))) ?_
      refine GX.m rfl ?_
      refine GX.done ?_
      rcases bool_two (decide (x28 = 3)) with hb40 | hb40
      ·rw [hb40]; try simp only [hb40, bb] at hL_15
       refine WK.condF rfl ?_
       refine WK.seq ?_
       refine WK.sr mixed ?_
       refine GX.q (.bool (decide (x28 = 4))) ?_
       refine GX.m rfl ?_
       refine GX.done ?_
       rcases bool_two (decide (x28 = 4)) with hb41 | hb41
       ·rw [hb41]; try simp only [hb41, bb] at hL_15
        refine WK.condF rfl ?_
        refine WK.regx mixed ?_
        refine GX.q (.bool (decide (x28 = 5))) ?_
        refine GX.m rfl ?_
        refine GX.done ?_
        rcases bool_two (decide (x28 = 5)) with hb42 | hb42
        ·rw [hb42]; try simp only [hb42, bb] at hL_15
         refine WK.condF rfl ?_
         refine WK.seq ?_
         refine WK.sr mixed ?_
         refine GX.q (.bool (decide (x28 = 6))) ?_
         refine GX.m rfl ?_
         refine GX.done ?_
         rcases bool_two (decide (x28 = 6)) with hb43 | hb43
         ·rw [hb43]; try simp only [hb43, bb] at hL_15
          refine WK.condF rfl ?_
          refine WK.regx mixed ?_
          refine GX.q (.bool (decide (x28 = 7))) ?_
          refine GX.m rfl ?_
          refine GX.done ?_
          rcases bool_two (decide (x28 = 7)) with hb44 | hb44
          ·rw [hb44]; try simp only [hb44, bb] at hL_15
           refine WK.condF rfl ?_
           refine WK.skip ?_
           refine WK.nil (QF.normal (hK36 _ ?_))
           refine WK.nil (QF.normal (hK17 _ ?_))
           refine WK.regx mixed ?_
           refine GX.pure (v' := .int .i64 ((i28 + 1 : Nat) : Int)) rfl rfl rfl rfl (congrArg (PVal.int .i64) (wrap_up hlt15 hlen_15)) ?_
           refine GX.m rfl ?_
           refine GX.done ?_
           refine WK.nil (QF.normal ?_)
           exact hagain_15 _ (fates2.length - (i28 + 1)) ⟨[(6, .ptr 0 0), (7, .ptr 1 0), (8, .ptr 2 0), (9, .ptr 4 0), (26, .ro 1 (fates2.map c_i64)), (27, .int .i64 (fates2.length : Int)), (28, .int .i64 ((i28 + 1) : Int))], [(0, .box [.int .u32 0, .int .u32 0, .int .i64 0, .bool false, .int .u32 0, .nils, .nils, .int .i64 0, .int .i64 0, .bool false, .bool false, .bool false, .int .u32 0, .nils]), (1, .box [.int .u32 0, .int .u32 0, .int .i64 0, .bool false, .int .u32 0, .nils, .nils, .int .i64 0, .int .i64 0, .bool false, .bool false, .bool false, .int .u32 0, .nils]), (2, .box [.int .u32 x8.s.Own, .int .u32 x8.s.Peer, .int .i64 x8.s.Phase, .bool x8.s.Leads, .int .u32 x8.s.Seq, .ro 8 (x8.s.Left.map THeader.c), .ro 8 (x8.s.Got.map THeader.c), .int .i64 x8.s.Last.MTU, .int .i64 x8.s.Last.Options, .bool x8.s.Last.Init, .bool x8.s.Last.More, .bool x8.s.Last.Master, .int .u32 x8.s.Last.Seq, .ro 8 (x8.s.Last.Heads.map THeader.c), .own 3 7 0 x8.waits.length]), (3, .row 7 29 (x8.waits.map TDesc.c)), (4, .box [.int .u32 y9.s.Own, .int .u32 y9.s.Peer, .int .i64 y9.s.Phase, .bool y9.s.Leads, .int .u32 y9.s.Seq, .ro 8 (y9.s.Left.map THeader.c), .ro 8 (y9.s.Got.map THeader.c), .int .i64 y9.s.Last.MTU, .int .i64 y9.s.Last.Options, .bool y9.s.Last.Init, .bool y9.s.Last.More, .bool y9.s.Last.Master, .int .u32 y9.s.Last.Seq, .ro 8 (y9.s.Last.Heads.map THeader.c), .own 5 7 0 y9.waits.length]), (5, .row 7 29 (y9.waits.map TDesc.c))], 6⟩ (by omega) (Conv.keep [0, 1, 2, 3, 4, 5] [] [6, 7, 8, 9, 26, 27, 28] rfl rfl (viewE_cons rfl rfl (viewE_cons rfl rfl (viewE_cons rfl rfl (viewE_cons rfl rfl (viewE_cons rfl rfl (viewE_cons rfl rfl (viewE_cons rfl rfl viewE_nil))))))) rfl rfl) ⟨i28 + 1, x8, y9, (by omega), rfl, hL_15, rfl⟩
          ·rw [hb44]; try simp only [hb44, bb] at hL_15
           refine WK.condT rfl ?_
           refine WK.regx mixed ?_
           iterate 2 refine GX.m rfl ?_
           generalize hc62 : F32_exch_end_hear x8 y9 true = c62 at hL_15
           rcases c62 with _ | c62
           ·try dsimp only at hL_15
            subst hL_15
            try dsimp only at hR
            cases hR
           try dsimp only at hL_15
           obtain ⟨c62a, c62b⟩ := c62; try dsimp only at hL_15
           refine GX.callx (r' := .tup []) (heap' := [(0, .box [.int .u32 0, .int .u32 0, .int .i64 0, .bool false, .int .u32 0, .nils, .nils, .int .i64 0, .int .i64 0, .bool false, .bool false, .bool false, .int .u32 0, .nils]), (1, .box [.int .u32 0, .int .u32 0, .int .i64 0, .bool false, .int .u32 0, .nils, .nils, .int .i64 0, .int .i64 0, .bool false, .bool false, .bool false, .int .u32 0, .nils]), (2, .box [.int .u32 c62a.s.Own, .int .u32 c62a.s.Peer, .int .i64 c62a.s.Phase, .bool c62a.s.Leads, .int .u32 c62a.s.Seq, .ro 8 (c62a.s.Left.map THeader.c), .ro 8 (c62a.s.Got.map THeader.c), .int .i64 c62a.s.Last.MTU, .int .i64 c62a.s.Last.Options, .bool c62a.s.Last.Init, .bool c62a.s.Last.More, .bool c62a.s.Last.Master, .int .u32 c62a.s.Last.Seq, .ro 8 (c62a.s.Last.Heads.map THeader.c), .own 6 7 0 c62a.waits.length]), (4, .box [.int .u32 c62b.s.Own, .int .u32 c62b.s.Peer, .int .i64 c62b.s.Phase, .bool c62b.s.Leads, .int .u32 c62b.s.Seq, .ro 8 (c62b.s.Left.map THeader.c), .ro 8 (c62b.s.Got.map THeader.c), .int .i64 c62b.s.Last.MTU, .int .i64 c62b.s.Last.Options, .bool c62b.s.Last.Init, .bool c62b.s.Last.More, .bool c62b.s.Last.Master, .int .u32 c62b.s.Last.Seq, .ro 8 (c62b.s.Last.Heads.map THeader.c), .own 7 7 0 c62b.waits.length]), (7, .row 7 29 (c62b.waits.map TDesc.c)), (6, .row 7 29 (c62a.waits.map TDesc.c))]) (next' := 8) [2, 4, 3, 5] [] rfl rfl rfl rfl rfl rfl (f32_ok x8 y9 true _ hc62) (.inl rfl) rfl rfl rfl ?_
           refine GX.done ?_
           refine WK.nil (QF.normal (hK36 _ ?_))
           refine WK.nil (QF.normal (hK17 _ ?_))
           refine WK.regx mixed ?_
           refine GX.pure (v' := .int .i64 ((i28 + 1 : Nat) : Int)) rfl rfl rfl rfl (congrArg (PVal.int .i64) (wrap_up hlt15 hlen_15)) ?_
           refine GX.m rfl ?_
           refine GX.done ?_
           refine WK.nil (QF.normal ?_)
           exact hagain_15 _ (fates2.length - (i28 + 1)) ⟨[(6, .ptr 0 0), (7, .ptr 1 0), (8, .ptr 2 0), (9, .ptr 4 0), (26, .ro 1 (fates2.map c_i64)), (27, .int .i64 (fates2.length : Int)), (28, .int .i64 ((i28 + 1) : Int))], [(0, .box [.int .u32 0, .int .u32 0, .int .i64 0, .bool false, .int .u32 0, .nils, .nils, .int .i64 0, .int .i64 0, .bool false, .bool false, .bool false, .int .u32 0, .nils]), (1, .box [.int .u32 0, .int .u32 0, .int .i64 0, .bool false, .int .u32 0, .nils, .nils, .int .i64 0, .int .i64 0, .bool false, .bool false, .bool false, .int .u32 0, .nils]), (2, .box [.int .u32 c62a.s.Own, .int .u32 c62a.s.Peer, .int .i64 c62a.s.Phase, .bool c62a.s.Leads, .int .u32 c62a.s.Seq, .ro 8 (c62a.s.Left.map THeader.c), .ro 8 (c62a.s.Got.map THeader.c), .int .i64 c62a.s.Last.MTU, .int .i64 c62a.s.Last.Options, .bool c62a.s.Last.Init, .bool c62a.s.Last.More, .bool c62a.s.Last.Master, .int .u32 c62a.s.Last.Seq, .ro 8 (c62a.s.Last.Heads.map THeader.c), .own 3 7 0 c62a.waits.length]), (3, .row 7 29 (c62a.waits.map TDesc.c)), (4, .box [.int .u32 c62b.s.Own, .int .u32 c62b.s.Peer, .int .i64 c62b.s.Phase, .bool c62b.s.Leads, .int .u32 c62b.s.Seq, .ro 8 (c62b.s.Left.map THeader.c), .ro 8 (c62b.s.Got.map THeader.c), .int .i64 c62b.s.Last.MTU, .int .i64 c62b.s.Last.Options, .bool c62b.s.Last.Init, .bool c62b.s.Last.More, .bool c62b.s.Last.Master, .int .u32 c62b.s.Last.Seq, .ro 8 (c62b.s.Last.Heads.map THeader.c), .own 5 7 0 c62b.waits.length]), (5, .row 7 29 (c62b.waits.map TDesc.c))], 6⟩ (by omega) (Conv.keep [0, 1, 2, 6, 4, 7] [] [6, 7, 8, 9, 26, 27, 28] rfl rfl (viewE_cons rfl rfl (viewE_cons rfl rfl (viewE_cons rfl rfl (viewE_cons rfl rfl (viewE_cons rfl rfl (viewE_cons rfl rfl (viewE_cons rfl rfl viewE_nil))))))) rfl rfl) ⟨i28 + 1, c62a, c62b, (by omega), rfl, hL_15, rfl⟩
         ·rw [hb43]; try simp only [hb43, bb] at hL_15
          refine WK.condT rfl ?_
          refine WK.skip ?_
          refine WK.condT rfl ?_
          refine WK.regx mixed ?_
          iterate 2 refine GX.m rfl ?_
          generalize hc62 : F32_exch_end_hear x8 y9 true = c62 at hL_15
          rcases c62 with _ | c62
          ·try dsimp only at hL_15
           subst hL_15
           try dsimp only at hR
           cases hR
          try dsimp only at hL_15
          obtain ⟨c62a, c62b⟩ := c62; try dsimp only at hL_15
          refine GX.callx (r' := .tup []) (heap' := [(0, .box [.int .u32 0, .int .u32 0, .int .i64 0, .bool false, .int .u32 0, .nils, .nils, .int .i64 0, .int .i64 0, .bool false, .bool false, .bool false, .int .u32 0, .nils]), (1, .box [.int .u32 0, .int .u32 0, .int .i64 0, .bool false, .int .u32 0, .nils, .nils, .int .i64 0, .int .i64 0, .bool false, .bool false, .bool false, .int .u32 0, .nils]), (2, .box [.int .u32 c62a.s.Own, .int .u32 c62a.s.Peer, .int .i64 c62a.s.Phase, .bool c62a.s.Leads, .int .u32 c62a.s.Seq, .ro 8 (c62a.s.Left.map THeader.c), .ro 8 (c62a.s.Got.map THeader.c), .int .i64 c62a.s.Last.MTU, .int .i64 c62a.s.Last.Options, .bool c62a.s.Last.Init, .bool c62a.s.Last.More, .bool c62a.s.Last.Master, .int .u32 c62a.s.Last.Seq, .ro 8 (c62a.s.Last.Heads.map THeader.c), .own 6 7 0 c62a.waits.length]), (4, .box [.int .u32 c62b.s.Own, .int .u32 c62b.s.Peer, .int .i64 c62b.s.Phase, .bool c62b.s.Leads, .int .u32 c62b.s.Seq, .ro 8 (c62b.s.Left.map THeader.c), .ro 8 (c62b.s.Got.map THeader.c), .int .i64 c62b.s.Last.MTU, .int .i64 c62b.s.Last.Options, .bool c62b.s.Last.Init, .bool c62b.s.Last.More, .bool c62b.s.Last.Master, .int .u32 c62b.s.Last.Seq, .ro 8 (c62b.s.Last.Heads.map THeader.c), .own 7 7 0 c62b.waits.length]), (7, .row 7 29 (c62b.waits.map TDesc.c)), (6, .row 7 29 (c62a.waits.map TDesc.c))]) (next' := 8) [2, 4, 3, 5] [] rfl rfl rfl rfl rfl rfl (f32_ok x8 y9 true _ hc62) (.inl rfl) rfl rfl rfl ?_
          refine GX.done ?_
          refine WK.nil (QF.normal (hK36 _ ?_))
          refine WK.nil (QF.normal (hK17 _ ?_))
          refine WK.regx mixed ?_
          refine GX.pure (v' := .int .i64 ((i28 + 1 : Nat) : Int)) rfl rfl rfl rfl (congrArg (PVal.int .i64) (wrap_up hlt15 hlen_15)) ?_
          refine GX.m rfl ?_
          refine GX.done ?_
          refine WK.nil (QF.normal ?_)
          exact hagain_15 _ (fates2.length - (i28 + 1)) ⟨[(6, .ptr 0 0), (7, .ptr 1 0), (8, .ptr 2 0), (9, .ptr 4 0), (26, .ro 1 (fates2.map c_i64)), (27, .int .i64 (fates2.length : Int)), (28, .int .i64 ((i28 + 1) : Int))], [(0, .box [.int .u32 0, .int .u32 0, .int .i64 0, .bool false, .int .u32 0, .nils, .nils, .int .i64 0, .int .i64 0, .bool false, .bool false, .bool false, .int .u32 0, .nils]), (1, .box [.int .u32 0, .int .u32 0, .int .i64 0, .bool false, .int .u32 0, .nils, .nils, .int .i64 0, .int .i64 0, .bool false, .bool false, .bool false, .int .u32 0, .nils]), (2, .box [.int .u32 c62a.s.Own, .int .u32 c62a.s.Peer, .int .i64 c62a.s.Phase, .bool c62a.s.Leads, .int .u32 c62a.s.Seq, .ro 8 (c62a.s.Left.map THeader.c), .ro 8 (c62a.s.Got.map THeader.c), .int .i64 c62a.s.Last.MTU, .int .i64 c62a.s.Last.Options, .bool c62a.s.Last.Init, .bool c62a.s.Last.More, .bool c62a.s.Last.Master, .int .u32 c62a.s.Last.Seq, .ro 8 (c62a.s.Last.Heads.map THeader.c), .own 3 7 0 c62a.waits.length]), (3, .row 7 29 (c62a.waits.map TDesc.c)), (4, .box [.int .u32 c62b.s.Own, .int .u32 c62b.s.Peer, .int .i64 c62b.s.Phase, .bool c62b.s.Leads, .int .u32 c62b.s.Seq, .ro 8 (c62b.s.Left.map THeader.c), .ro 8 (c62b.s.Got.map THeader.c), .int .i64 c62b.s.Last.MTU, .int .i64 c62b.s.Last.Options, .bool c62b.s.Last.Init, .bool c62b.s.Last.More, .bool c62b.s.Last.Master, .int .u32 c62b.s.Last.Seq, .ro 8 (c62b.s.Last.Heads.map THeader.c), .own 5 7 0 c62b.waits.length]), (5, .row 7 29 (c62b.waits.map TDesc.c))], 6⟩ (by omega) (Conv.keep [0, 1, 2, 6, 4, 7] [] [6, 7, 8, 9, 26, 27, 28] rfl rfl (viewE_cons rfl rfl (viewE_cons rfl rfl (viewE_cons rfl rfl (viewE_cons rfl rfl (viewE_cons rfl rfl (viewE_cons rfl rfl (viewE_cons rfl rfl viewE_nil))))))) rfl rfl) ⟨i28 + 1, c62a, c62b, (by omega), rfl, hL_15, rfl⟩
        ·rw [hb42]; try simp only [hb42, bb] at hL_15
         refine WK.condT rfl ?_
         refine WK.regx mixed ?_
         iterate 2 refine GX.m rfl ?_
         generalize hc56 : F34_exch_end_remind x8 y9 = c56 at hL_15
         rcases c56 with _ | c56
         ·try dsimp only at hL_15
          subst hL_15
          try dsimp only at hR
          cases hR
         try dsimp only at hL_15
         obtain ⟨c56a, c56b⟩ := c56; try dsimp only at hL_15
         refine GX.callx (r' := .tup []) (heap' := [(0, .box [.int .u32 0, .int .u32 0, .int .i64 0, .bool false, .int .u32 0, .nils, .nils, .int .i64 0, .int .i64 0, .bool false, .bool false, .bool false, .int .u32 0, .nils]), (1, .box [.int .u32 0, .int .u32 0, .int .i64 0, .bool false, .int .u32 0, .nils, .nils, .int .i64 0, .int .i64 0, .bool false, .bool false, .bool false, .int .u32 0, .nils]), (2, .box [.int .u32 c56a.s.Own, .int .u32 c56a.s.Peer, .int .i64 c56a.s.Phase, .bool c56a.s.Leads, .int .u32 c56a.s.Seq, .ro 8 (c56a.s.Left.map THeader.c), .ro 8 (c56a.s.Got.map THeader.c), .int .i64 c56a.s.Last.MTU, .int .i64 c56a.s.Last.Options, .bool c56a.s.Last.Init, .bool c56a.s.Last.More, .bool c56a.s.Last.Master, .int .u32 c56a.s.Last.Seq, .ro 8 (c56a.s.Last.Heads.map THeader.c), .own 6 7 0 c56a.waits.length]), (4, .box [.int .u32 c56b.s.Own, .int .u32 c56b.s.Peer, .int .i64 c56b.s.Phase, .bool c56b.s.Leads, .int .u32 c56b.s.Seq, .ro 8 (c56b.s.Left.map THeader.c), .ro 8 (c56b.s.Got.map THeader.c), .int .i64 c56b.s.Last.MTU, .int .i64 c56b.s.Last.Options, .bool c56b.s.Last.Init, .bool c56b.s.Last.More, .bool c56b.s.Last.Master, .int .u32 c56b.s.Last.Seq, .ro 8 (c56b.s.Last.Heads.map THeader.c), .own 7 7 0 c56b.waits.length]), (7, .row 7 29 (c56b.waits.map TDesc.c)), (6, .row 7 29 (c56a.waits.map TDesc.c))]) (next' := 8) [2, 4, 3, 5] [] rfl rfl rfl rfl rfl rfl (f34_ok x8 y9 _ hc56) (.inl rfl) rfl rfl rfl ?_
         refine GX.done ?_
         refine WK.nil (QF.normal (hK36 _ ?_))
         refine WK.nil (QF.normal (hK17 _ ?_))
         refine WK.regx mixed ?_
         refine GX.pure (v' := .int .i64 ((i28 + 1 : Nat) : Int)) rfl rfl rfl rfl (congrArg (PVal.int .i64) (wrap_up hlt15 hlen_15)) ?_
         refine GX.m rfl ?_
         refine GX.done ?_
         refine WK.nil (QF.normal ?_)
         exact hagain_15 _ (fates2.length - (i28 + 1)) ⟨[(6, .ptr 0 0), (7, .ptr 1 0), (8, .ptr 2 0), (9, .ptr 4 0), (26, .ro 1 (fates2.map c_i64)), (27, .int .i64 (fates2.length : Int)), (28, .int .i64 ((i28 + 1) : Int))], [(0, .box [.int .u32 0, .int .u32 0, .int .i64 0, .bool false, .int .u32 0, .nils, .nils, .int .i64 0, .int .i64 0, .bool false, .bool false, .bool false, .int .u32 0, .nils]), (1, .box [.int .u32 0, .int .u32 0, .int .i64 0, .bool false, .int .u32 0, .nils, .nils, .int .i64 0, .int .i64 0, .bool false, .bool false, .bool false, .int .u32 0, .nils]), (2, .box [.int .u32 c56a.s.Own, .int .u32 c56a.s.Peer, .int .i64 c56a.s.Phase, .bool c56a.s.Leads, .int .u32 c56a.s.Seq, .ro 8 (c56a.s.Left.map THeader.c), .ro 8 (c56a.s.Got.map THeader.c), .int .i64 c56a.s.Last.MTU, .int .i64 c56a.s.Last.Options, .bool c56a.s.Last.Init, .bool c56a.s.Last.More, .bool c56a.s.Last.Master, .int .u32 c56a.s.Last.Seq, .ro 8 (c56a.s.Last.Heads.map THeader.c), .own 3 7 0 c56a.waits.length]), (3, .row 7 29 (c56a.waits.map TDesc.c)), (4, .box [.int .u32 c56b.s.Own, .int .u32 c56b.s.Peer, .int .i64 c56b.s.Phase, .bool c56b.s.Leads, .int .u32 c56b.s.Seq, .ro 8 (c56b.s.Left.map THeader.c), .ro 8 (c56b.s.Got.map THeader.c), .int .i64 c56b.s.Last.MTU, .int .i64 c56b.s.Last.Options, .bool c56b.s.Last.Init, .bool c56b.s.Last.More, .bool c56b.s.Last.Master, .int .u32 c56b.s.Last.Seq, .ro 8 (c56b.s.Last.Heads.map THeader.c), .own 5 7 0 c56b.waits.length]), (5, .row 7 29 (c56b.waits.map TDesc.c))], 6⟩ (by omega) (Conv.keep [0, 1, 2, 6, 4, 7] [] [6, 7, 8, 9, 26, 27, 28] rfl rfl (viewE_cons rfl rfl (viewE_cons rfl rfl (viewE_cons rfl rfl (viewE_cons rfl rfl (viewE_cons rfl rfl (viewE_cons rfl rfl (viewE_cons rfl rfl viewE_nil))))))) rfl rfl) ⟨i28 + 1, c56a, c56b, (by omega), rfl, hL_15, rfl⟩
       ·rw [hb41]; try simp only [hb41, bb] at hL_15
        refine WK.condT rfl ?_
        refine WK.skip ?_
        refine WK.condT rfl ?_
        refine WK.regx mixed ?_
        iterate 2 refine GX.m rfl ?_
        generalize hc56 : F34_exch_end_remind x8 y9 = c56 at hL_15
        rcases c56 with _ | c56
        ·try dsimp only at hL_15
         subst hL_15
         try dsimp only at hR
         cases hR
        try dsimp only at hL_15
        obtain ⟨c56a, c56b⟩ := c56; try dsimp only at hL_15
        refine GX.callx (r' := .tup []) (heap' := [(0, .box [.int .u32 0, .int .u32 0, .int .i64 0, .bool false, .int .u32 0, .nils, .nils, .int .i64 0, .int .i64 0, .bool false, .bool false, .bool false, .int .u32 0, .nils]), (1, .box [.int .u32 0, .int .u32 0, .int .i64 0, .bool false, .int .u32 0, .nils, .nils, .int .i64 0, .int .i64 0, .bool false, .bool false, .bool false, .int .u32 0, .nils]), (2, .box [.int .u32 c56a.s.Own, .int .u32 c56a.s.Peer, .int .i64 c56a.s.Phase, .bool c56a.s.Leads, .int .u32 c56a.s.Seq, .ro 8 (c56a.s.Left.map THeader.c), .ro 8 (c56a.s.Got.map THeader.c), .int .i64 c56a.s.Last.MTU, .int .i64 c56a.s.Last.Options, .bool c56a.s.Last.Init, .bool c56a.s.Last.More, .bool c56a.s.Last.Master, .int .u32 c56a.s.Last.Seq, .ro 8 (c56a.s.Last.Heads.map THeader.c), .own 6 7 0 c56a.waits.length]), (4, .box [.int .u32 c56b.s.Own, .int .u32 c56b.s.Peer, .int .i64 c56b.s.Phase, .bool c56b.s.Leads, .int .u32 c56b.s.Seq, .ro 8 (c56b.s.Left.map THeader.c), .ro 8 (c56b.s.Got.map THeader.c), .int .i64 c56b.s.Last.MTU, .int .i64 c56b.s.Last.Options, .bool c56b.s.Last.Init, .bool c56b.s.Last.More, .bool c56b.s.Last.Master, .int .u32 c56b.s.Last.Seq, .ro 8 (c56b.s.Last.Heads.map THeader.c), .own 7 7 0 c56b.waits.length]), (7, .row 7 29 (c56b.waits.map TDesc.c)), (6, .row 7 29 (c56a.waits.map TDesc.c))]) (next' := 8) [2, 4, 3, 5] [] rfl rfl rfl rfl rfl rfl (f34_ok x8 y9 _ hc56) (.inl rfl) rfl rfl rfl ?_
        refine GX.done ?_
        refine WK.nil (QF.normal (hK36 _ ?_))
        refine WK.nil (QF.normal (hK17 _ ?_))
        refine WK.regx mixed ?_
        refine GX.pure (v' := .int .i64 ((i28 + 1 : Nat) : Int)) rfl rfl rfl rfl (congrArg (PVal.int .i64) (wrap_up hlt15 hlen_15)) ?_
        refine GX.m rfl ?_
        refine GX.done ?_
        refine WK.nil (QF.normal ?_)
        exact hagain_15 _ (fates2.length - (i28 + 1)) ⟨[(6, .ptr 0 0), (7, .ptr 1 0), (8, .ptr 2 0), (9, .ptr 4 0), (26, .ro 1 (fates2.map c_i64)), (27, .int .i64 (fates2.length : Int)), (28, .int .i64 ((i28 + 1) : Int))], [(0, .box [.int .u32 0, .int .u32 0, .int .i64 0, .bool false, .int .u32 0, .nils, .nils, .int .i64 0, .int .i64 0, .bool false, .bool false, .bool false, .int .u32 0, .nils]), (1, .box [.int .u32 0, .int .u32 0, .int .i64 0, .bool false, .int .u32 0, .nils, .nils, .int .i64 0, .int .i64 0, .bool false, .bool false, .bool false, .int .u32 0, .nils]), (2, .box [.int .u32 c56a.s.Own, .int .u32 c56a.s.Peer, .int .i64 c56a.s.Phase, .bool c56a.s.Leads, .int .u32 c56a.s.Seq, .ro 8 (c56a.s.Left.map THeader.c), .ro 8 (c56a.s.Got.map THeader.c), .int .i64 c56a.s.Last.MTU, .int .i64 c56a.s.Last.Options, .bool c56a.s.Last.Init, .bool c56a.s.Last.More, .bool c56a.s.Last.Master, .int .u32 c56a.s.Last.Seq, .ro 8 (c56a.s.Last.Heads.map THeader.c), .own 3 7 0 c56a.waits.length]), (3, .row 7 29 (c56a.waits.map TDesc.c)), (4, .box [.int .u32 c56b.s.Own, .int .u32 c56b.s.Peer, .int .i64 c56b.s.Phase, .bool c56b.s.Leads, .int .u32 c56b.s.Seq, .ro 8 (c56b.s.Left.map THeader.c), .ro 8 (c56b.s.Got.map THeader.c), .int .i64 c56b.s.Last.MTU, .int .i64 c56b.s.Last.Options, .bool c56b.s.Last.Init, .bool c56b.s.Last.More, .bool c56b.s.Last.Master, .int .u32 c56b.s.Last.Seq, .ro 8 (c56b.s.Last.Heads.map THeader.c), .own 5 7 0 c56b.waits.length]), (5, .row 7 29 (c56b.waits.map TDesc.c))], 6⟩ (by omega) (Conv.keep [0, 1, 2, 6, 4, 7] [] [6, 7, 8, 9, 26, 27, 28] rfl rfl (viewE_cons rfl rfl (viewE_cons rfl rfl (viewE_cons rfl rfl (viewE_cons rfl rfl (viewE_cons rfl rfl (viewE_cons rfl rfl (viewE_cons rfl rfl viewE_nil))))))) rfl rfl) ⟨i28 + 1, c56a, c56b, (by omega), rfl, hL_15, rfl⟩
      ·rw [hb40]; try simp only [hb40, bb] at hL_15
       refine WK.condT rfl ?_
       refine WK.regx mixed ?_
       refine GX.m rfl ?_
       generalize hc50 : F33_exch_end_next x8 false = c50 at hL_15
       rcases c50 with _ | c50
       ·try dsimp only at hL_15
        subst hL_15
        try dsimp only at hR
        cases hR
       try dsimp only at hL_15
       obtain ⟨c50a, c50b, c50c⟩ := c50; try dsimp only at hL_15
       refine GX.callx (r' := .tup [.agg (TDesc.c c50a), .bool c50b]) (heap' := [(0, .box [.int .u32 0, .int .u32 0, .int .i64 0, .bool false, .int .u32 0, .nils, .nils, .int .i64 0, .int .i64 0, .bool false, .bool false, .bool false, .int .u32 0, .nils]), (1, .box [.int .u32 0, .int .u32 0, .int .i64 0, .bool false, .int .u32 0, .nils, .nils, .int .i64 0, .int .i64 0, .bool false, .bool false, .bool false, .int .u32 0, .nils]), (2, .box [.int .u32 c50c.s.Own, .int .u32 c50c.s.Peer, .int .i64 c50c.s.Phase, .bool c50c.s.Leads, .int .u32 c50c.s.Seq, .ro 8 (c50c.s.Left.map THeader.c), .ro 8 (c50c.s.Got.map THeader.c), .int .i64 c50c.s.Last.MTU, .int .i64 c50c.s.Last.Options, .bool c50c.s.Last.Init, .bool c50c.s.Last.More, .bool c50c.s.Last.Master, .int .u32 c50c.s.Last.Seq, .ro 8 (c50c.s.Last.Heads.map THeader.c), .own 6 7 0 c50c.waits.length]), (4, .box [.int .u32 y9.s.Own, .int .u32 y9.s.Peer, .int .i64 y9.s.Phase, .bool y9.s.Leads, .int .u32 y9.s.Seq, .ro 8 (y9.s.Left.map THeader.c), .ro 8 (y9.s.Got.map THeader.c), .int .i64 y9.s.Last.MTU, .int .i64 y9.s.Last.Options, .bool y9.s.Last.Init, .bool y9.s.Last.More, .bool y9.s.Last.Master, .int .u32 y9.s.Last.Seq, .ro 8 (y9.s.Last.Heads.map THeader.c), .own 5 7 0 y9.waits.length]), (5, .row 7 29 (y9.waits.map TDesc.c)), (6, .row 7 29 (c50c.waits.map TDesc.c))]) (next' := 7) [2, 3] [] rfl rfl rfl rfl rfl rfl (f33_ok x8 false _ hc50) (.inl rfl) rfl rfl rfl ?_
       refine GX.done ?_
       refine WK.nil (QF.normal (hK36 _ ?_))
       refine WK.nil (QF.normal (hK17 _ ?_))
       refine WK.regx mixed ?_
       refine GX.pure (v' := .int .i64 ((i28 + 1 : Nat) : Int)) rfl rfl rfl rfl (congrArg (PVal.int .i64) (wrap_up hlt15 hlen_15)) ?_
       refine GX.m rfl ?_
       refine GX.done ?_
       refine WK.nil (QF.normal ?_)
       exact hagain_15 _ (fates2.length - (i28 + 1)) ⟨[(6, .ptr 0 0), (7, .ptr 1 0), (8, .ptr 2 0), (9, .ptr 4 0), (26, .ro 1 (fates2.map c_i64)), (27, .int .i64 (fates2.length : Int)), (28, .int .i64 ((i28 + 1) : Int))], [(0, .box [.int .u32 0, .int .u32 0, .int .i64 0, .bool false, .int .u32 0, .nils, .nils, .int .i64 0, .int .i64 0, .bool false, .bool false, .bool false, .int .u32 0, .nils]), (1, .box [.int .u32 0, .int .u32 0, .int .i64 0, .bool false, .int .u32 0, .nils, .nils, .int .i64 0, .int .i64 0, .bool false, .bool false, .bool false, .int .u32 0, .nils]), (2, .box [.int .u32 c50c.s.Own, .int .u32 c50c.s.Peer, .int .i64 c50c.s.Phase, .bool c50c.s.Leads, .int .u32 c50c.s.Seq, .ro 8 (c50c.s.Left.map THeader.c), .ro 8 (c50c.s.Got.map THeader.c), .int .i64 c50c.s.Last.MTU, .int .i64 c50c.s.Last.Options, .bool c50c.s.Last.Init, .bool c50c.s.Last.More, .bool c50c.s.Last.Master, .int .u32 c50c.s.Last.Seq, .ro 8 (c50c.s.Last.Heads.map THeader.c), .own 3 7 0 c50c.waits.length]), (3, .row 7 29 (c50c.waits.map TDesc.c)), (4, .box [.int .u32 y9.s.Own, .int .u32 y9.s.Peer, .int .i64 y9.s.Phase, .bool y9.s.Leads, .int .u32 y9.s.Seq, .ro 8 (y9.s.Left.map THeader.c), .ro 8 (y9.s.Got.map THeader.c), .int .i64 y9.s.Last.MTU, .int .i64 y9.s.Last.Options, .bool y9.s.Last.Init, .bool y9.s.Last.More, .bool y9.s.Last.Master, .int .u32 y9.s.Last.Seq, .ro 8 (y9.s.Last.Heads.map THeader.c), .own 5 7 0 y9.waits.length]), (5, .row 7 29 (y9.waits.map TDesc.c))], 6⟩ (by omega) (Conv.keep [0, 1, 2, 6, 4, 5] [] [6, 7, 8, 9, 26, 27, 28] rfl rfl (viewE_cons rfl rfl (viewE_cons rfl rfl (viewE_cons rfl rfl (viewE_cons rfl rfl (viewE_cons rfl rfl (viewE_cons rfl rfl (viewE_cons rfl rfl viewE_nil))))))) rfl rfl) ⟨i28 + 1, c50c, y9, (by omega), rfl, hL_15, rfl⟩
     ·rw [hb39]; try simp only [hb39, bb] at hL_15
      refine WK.condT rfl ?_
      refine WK.skip ?_
      refine WK.condT rfl ?_
      refine WK.regx mixed ?_
      refine GX.m rfl ?_
      generalize hc50 : F33_exch_end_next x8 false = c50 at hL_15
      rcases c50 with _ | c50
      ·try dsimp only at hL_15
       subst hL_15
       try dsimp only at hR
       cases hR
      try dsimp only at hL_15
      obtain ⟨c50a, c50b, c50c⟩ := c50; try dsimp only at hL_15
      refine GX.callx (r' := .tup [.agg (TDesc.c c50a), .bool c50b]) (heap' := [(0, .box [.int .u32 0, .int .u32 0, .int .i64 0, .bool false, .int .u32 0, .nils, .nils, .int .i64 0, .int .i64 0, .bool false, .bool false, .bool false, .int .u32 0, .nils]), (1, .box [.int .u32 0, .int .u32 0, .int .i64 0, .bool false, .int .u32 0, .nils, .nils, .int .i64 0, .int .i64 0, .bool false, .bool false, .bool false, .int .u32 0, .nils]), (2, .box [.int .u32 c50c.s.Own, .int .u32 c50c.s.Peer, .int .i64 c50c.s.Phase, .bool c50c.s.Leads, .int .u32 c50c.s.Seq, .ro 8 (c50c.s.Left.map THeader.c), .ro 8 (c50c.s.Got.map THeader.c), .int .i64 c50c.s.Last.MTU, .int .i64 c50c.s.Last.Options, .bool c50c.s.Last.Init, .bool c50c.s.Last.More, .bool c50c.s.Last.Master, .int .u32 c50c.s.Last.Seq, .ro 8 (c50c.s.Last.Heads.map THeader.c), .own 6 7 0 c50c.waits.length]), (4, .box [.int .u32 y9.s.Own, .int .u32 y9.s.Peer, .int .i64 y9.s.Phase, .bool y9.s.Leads, .int .u32 y9.s.Seq, .ro 8 (y9.s.Left.map THeader.c), .ro 8 (y9.s.Got.map THeader.c), .int .i64 y9.s.Last.MTU, .int .i64 y9.s.Last.Options, .bool y9.s.Last.Init, .bool y9.s.Last.More, .bool y9.s.Last.Master, .int .u32 y9.s.Last.Seq, .ro 8 (y9.s.Last.Heads.map THeader.c), .own 5 7 0 y9.waits.length]), (5, .row 7 29 (y9.waits.map TDesc.c)), (6, .row 7 29 (c50c.waits.map TDesc.c))]) (next' := 7) [2, 3] [] rfl rfl rfl rfl rfl rfl (f33_ok x8 false _ hc50) (.inl rfl) rfl rfl rfl ?_
      refine GX.done ?_
      refine WK.nil (QF.normal (hK36 _ ?_))
      refine WK.nil (QF.normal (hK17 _ ?_))
      refine WK.regx mixed ?_
      refine GX.pure (v' := .int .i64 ((i28 + 1 : Nat) : Int)) rfl rfl rfl rfl (congrArg (PVal.int .i64) (wrap_up hlt15 hlen_15)) ?_
      refine GX.m rfl ?_
      refine GX.done ?_
      refine WK.nil (QF.normal ?_)
      exact hagain_15 _ (fates2.length - (i28 + 1)) ⟨[(6, .ptr 0 0), (7, .ptr 1 0), (8, .ptr 2 0), (9, .ptr 4 0), (26, .ro 1 (fates2.map c_i64)), (27, .int .i64 (fates2.length : Int)), (28, .int .i64 ((i28 + 1) : Int))], [(0, .box [.int .u32 0, .int .u32 0, .int .i64 0, .bool false, .int .u32 0, .nils, .nils, .int .i64 0, .int .i64 0, .bool false, .bool false, .bool false, .int .u32 0, .nils]), (1, .box [.int .u32 0, .int .u32 0, .int .i64 0, .bool false, .int .u32 0, .nils, .nils, .int .i64 0, .int .i64 0, .bool false, .bool false, .bool false, .int .u32 0, .nils]), (2, .box [.int .u32 c50c.s.Own, .int .u32 c50c.s.Peer, .int .i64 c50c.s.Phase, .bool c50c.s.Leads, .int .u32 c50c.s.Seq, .ro 8 (c50c.s.Left.map THeader.c), .ro 8 (c50c.s.Got.map THeader.c), .int .i64 c50c.s.Last.MTU, .int .i64 c50c.s.Last.Options, .bool c50c.s.Last.Init, .bool c50c.s.Last.More, .bool c50c.s.Last.Master, .int .u32 c50c.s.Last.Seq, .ro 8 (c50c.s.Last.Heads.map THeader.c), .own 3 7 0 c50c.waits.length]), (3, .row 7 29 (c50c.waits.map TDesc.c)), (4, .box [.int .u32 y9.s.Own, .int .u32 y9.s.Peer, .int .i64 y9.s.Phase, .bool y9.s.Leads, .int .u32 y9.s.Seq, .ro 8 (y9.s.Left.map THeader.c), .ro 8 (y9.s.Got.map THeader.c), .int .i64 y9.s.Last.MTU, .int .i64 y9.s.Last.Options, .bool y9.s.Last.Init, .bool y9.s.Last.More, .bool y9.s.Last.Master, .int .u32 y9.s.Last.Seq, .ro 8 (y9.s.Last.Heads.map THeader.c), .own 5 7 0 y9.waits.length]), (5, .row 7 29 (y9.waits.map TDesc.c))], 6⟩ (by omega) (Conv.keep [0, 1, 2, 6, 4, 5] [] [6, 7, 8, 9, 26, 27, 28] rfl rfl (viewE_cons rfl rfl (viewE_cons rfl rfl (viewE_cons rfl rfl (viewE_cons rfl rfl (viewE_cons rfl rfl (viewE_cons rfl rfl (viewE_cons rfl rfl viewE_nil))))))) rfl rfl) ⟨i28 + 1, c50c, y9, (by omega), rfl, hL_15, rfl⟩
    ·rw [hb38]; try simp only [hb38, bb] at hL_15
     refine WK.condT rfl ?_
     refine WK.regx mixed ?_
     iterate 2 refine GX.m rfl ?_
     generalize hc45 : F32_exch_end_hear x8 y9 false = c45 at hL_15
     rcases c45 with _ | c45
     ·try dsimp only at hL_15
      subst hL_15
      try dsimp only at hR
      cases hR
     try dsimp only at hL_15
     obtain ⟨c45a, c45b⟩ := c45; try dsimp only at hL_15
     refine GX.callx (r' := .tup []) (heap' := [(0, .box [.int .u32 0, .int .u32 0, .int .i64 0, .bool false, .int .u32 0, .nils, .nils, .int .i64 0, .int .i64 0, .bool false, .bool false, .bool false, .int .u32 0, .nils]), (1, .box [.int .u32 0, .int .u32 0, .int .i64 0, .bool false, .int .u32 0, .nils, .nils, .int .i64 0, .int .i64 0, .bool false, .bool false, .bool false, .int .u32 0, .nils]), (2, .box [.int .u32 c45a.s.Own, .int .u32 c45a.s.Peer, .int .i64 c45a.s.Phase, .bool c45a.s.Leads, .int .u32 c45a.s.Seq, .ro 8 (c45a.s.Left.map THeader.c), .ro 8 (c45a.s.Got.map THeader.c), .int .i64 c45a.s.Last.MTU, .int .i64 c45a.s.Last.Options, .bool c45a.s.Last.Init, .bool c45a.s.Last.More, .bool c45a.s.Last.Master, .int .u32 c45a.s.Last.Seq, .ro 8 (c45a.s.Last.Heads.map THeader.c), .own 6 7 0 c45a.waits.length]), (4, .box [.int .u32 c45b.s.Own, .int .u32 c45b.s.Peer, .int .i64 c45b.s.Phase, .bool c45b.s.Leads, .int .u32 c45b.s.Seq, .ro 8 (c45b.s.Left.map THeader.c), .ro 8 (c45b.s.Got.map THeader.c), .int .i64 c45b.s.Last.MTU, .int .i64 c45b.s.Last.Options, .bool c45b.s.Last.Init, .bool c45b.s.Last.More, .bool c45b.s.Last.Master, .int .u32 c45b.s.Last.Seq, .ro 8 (c45b.s.Last.Heads.map THeader.c), .own 7 7 0 c45b.waits.length]), (7, .row 7 29 (c45b.waits.map TDesc.c)), (6, .row 7 29 (c45a.waits.map TDesc.c))]) (next' := 8) [2, 4, 3, 5] [] rfl rfl rfl rfl rfl rfl (f32_ok x8 y9 false _ hc45) (.inl rfl) rfl rfl rfl ?_
     refine GX.done ?_
     refine WK.nil (QF.normal (hK36 _ ?_))
     refine WK.nil (QF.normal (hK17 _ ?_))
     refine WK.regx mixed ?_
     refine GX.pure (v' := .int .i64 ((i28 + 1 : Nat) : Int)) rfl rfl rfl rfl (congrArg (PVal.int .i64) (wrap_up hlt15 hlen_15)) ?_
     refine GX.m rfl ?_
     refine GX.done ?_
     refine WK.nil (QF.normal ?_)
     exact hagain_15 _ (fates2.length - (i28 + 1)) ⟨[(6, .ptr 0 0), (7, .ptr 1 0), (8, .ptr 2 0), (9, .ptr 4 0), (26, .ro 1 (fates2.map c_i64)), (27, .int .i64 (fates2.length : Int)), (28, .int .i64 ((i28 + 1) : Int))], [(0, .box [.int .u32 0, .int .u32 0, .int .i64 0, .bool false, .int .u32 0, .nils, .nils, .int .i64 0, .int .i64 0, .bool false, .bool false, .bool false, .int .u32 0, .nils]), (1, .box [.int .u32 0, .int .u32 0, .int .i64 0, .bool false, .int .u32 0, .nils, .nils, .int .i64 0, .int .i64 0, .bool false, .bool false, .bool false, .int .u32 0, .nils]), (2, .box [.int .u32 c45a.s.Own, .int .u32 c45a.s.Peer, .int .i64 c45a.s.Phase, .bool c45a.s.Leads, .int .u32 c45a.s.Seq, .ro 8 (c45a.s.Left.map THeader.c), .ro 8 (c45a.s.Got.map THeader.c), .int .i64 c45a.s.Last.MTU, .int .i64 c45a.s.Last.Options, .bool c45a.s.Last.Init, .bool c45a.s.Last.More, .bool c45a.s.Last.Master, .int .u32 c45a.s.Last.Seq, .ro 8 (c45a.s.Last.Heads.map THeader.c), .own 3 7 0 c45a.waits.length]), (3, .row 7 29 (c45a.waits.map TDesc.c)), (4, .box [.int .u32 c45b.s.Own, .int .u32 c45b.s.Peer, .int .i64 c45b.s.Phase, .bool c45b.s.Leads, .int .u32 c45b.s.Seq, .ro 8 (c45b.s.Left.map THeader.c), .ro 8 (c45b.s.Got.map THeader.c), .int .i64 c45b.s.Last.MTU, .int .i64 c45b.s.Last.Options, .bool c45b.s.Last.Init, .bool c45b.s.Last.More, .bool c45b.s.Last.Master, .int .u32 c45b.s.Last.Seq, .ro 8 (c45b.s.Last.Heads.map THeader.c), .own 5 7 0 c45b.waits.length]), (5, .row 7 29 (c45b.waits.map TDesc.c))], 6⟩ (by omega) (Conv.keep [0, 1, 2, 6, 4, 7] [] [6, 7, 8, 9, 26, 27, 28] rfl rfl (viewE_cons rfl rfl (viewE_cons rfl rfl (viewE_cons rfl rfl (viewE_cons rfl rfl (viewE_cons rfl rfl (viewE_cons rfl rfl (viewE_cons rfl rfl viewE_nil))))))) rfl rfl) ⟨i28 + 1, c45a, c45b, (by omega), rfl, hL_15, rfl⟩
   ·rw [hb37]; try simp only [hb37, bb] at hL_15
    refine WK.condT rfl ?_
    refine WK.skip ?_
    refine WK.condT rfl ?_
    refine WK.regx mixed ?_
    iterate 2 refine GX.m rfl ?_
    generalize hc45 : F32_exch_end_hear x8 y9 false = c45 at hL_15
    rcases c45 with _ | c45
    ·try dsimp only at hL_15
     subst hL_15
     try dsimp only at hR
     cases hR
    try dsimp only at hL_15
    obtain ⟨c45a, c45b⟩ := c45; try dsimp only at hL_15
    refine GX.callx (r' := .tup []) (heap' := [(0, .box [.int .u32 0, .int .u32 0, .int .i64 0, .bool false, .int .u32 0, .nils, .nils, .int .i64 0, .int .i64 0, .bool false, .bool false, .bool false, .int .u32 0, .nils]), (1, .box [.int .u32 0, .int .u32 0, .int .i64 0, .bool false, .int .u32 0, .nils, .nils, .int .i64 0, .int .i64 0, .bool false, .bool false, .bool false, .int .u32 0, .nils]), (2, .box [.int .u32 c45a.s.Own, .int .u32 c45a.s.Peer, .int .i64 c45a.s.Phase, .bool c45a.s.Leads, .int .u32 c45a.s.Seq, .ro 8 (c45a.s.Left.map THeader.c), .ro 8 (c45a.s.Got.map THeader.c), .int .i64 c45a.s.Last.MTU, .int .i64 c45a.s.Last.Options, .bool c45a.s.Last.Init, .bool c45a.s.Last.More, .bool c45a.s.Last.Master, .int .u32 c45a.s.Last.Seq, .ro 8 (c45a.s.Last.Heads.map THeader.c), .own 6 7 0 c45a.waits.length]), (4, .box [.int .u32 c45b.s.Own, .int .u32 c45b.s.Peer, .int .i64 c45b.s.Phase, .bool c45b.s.Leads, .int .u32 c45b.s.Seq, .ro 8 (c45b.s.Left.map THeader.c), .ro 8 (c45b.s.Got.map THeader.c), .int .i64 c45b.s.Last.MTU, .int .i64 c45b.s.Last.Options, .bool c45b.s.Last.Init, .bool c45b.s.Last.More, .bool c45b.s.Last.Master, .int .u32 c45b.s.Last.Seq, .ro 8 (c45b.s.Last.Heads.map THeader.c), .own 7 7 0 c45b.waits.length]), (7, .row 7 29 (c45b.waits.map TDesc.c)), (6, .row 7 29 (c45a.waits.map TDesc.c))]) (next' := 8) [2, 4, 3, 5] [] rfl rfl rfl rfl rfl rfl (f32_ok x8 y9 false _ hc45) (.inl rfl) rfl rfl rfl ?_
    refine GX.done ?_
    refine WK.nil (QF.normal (hK36 _ ?_))
    refine WK.nil (QF.normal (hK17 _ ?_))
    refine WK.regx mixed ?_
    refine GX.pure (v' := .int .i64 ((i28 + 1 : Nat) : Int)) rfl rfl rfl rfl (congrArg (PVal.int .i64) (wrap_up hlt15 hlen_15)) ?_
    refine GX.m rfl ?_
    refine GX.done ?_
    refine WK.nil (QF.normal ?_)
    exact hagain_15 _ (fates2.length - (i28 + 1)) ⟨[(6, .ptr 0 0), (7, .ptr 1 0), (8, .ptr 2 0), (9, .ptr 4 0), (26, .ro 1 (fates2.map c_i64)), (27, .int .i64 (fates2.length : Int)), (28, .int .i64 ((i28 + 1) : Int))], [(0, .box [.int .u32 0, .int .u32 0, .int .i64 0, .bool false, .int .u32 0, .nils, .nils, .int .i64 0, .int .i64 0, .bool false, .bool false, .bool false, .int .u32 0, .nils]), (1, .box [.int .u32 0, .int .u32 0, .int .i64 0, .bool false, .int .u32 0, .nils, .nils, .int .i64 0, .int .i64 0, .bool false, .bool false, .bool false, .int .u32 0, .nils]), (2, .box [.int .u32 c45a.s.Own, .int .u32 c45a.s.Peer, .int .i64 c45a.s.Phase, .bool c45a.s.Leads, .int .u32 c45a.s.Seq, .ro 8 (c45a.s.Left.map THeader.c), .ro 8 (c45a.s.Got.map THeader.c), .int .i64 c45a.s.Last.MTU, .int .i64 c45a.s.Last.Options, .bool c45a.s.Last.Init, .bool c45a.s.Last.More, .bool c45a.s.Last.Master, .int .u32 c45a.s.Last.Seq, .ro 8 (c45a.s.Last.Heads.map THeader.c), .own 3 7 0 c45a.waits.length]), (3, .row 7 29 (c45a.waits.map TDesc.c)), (4, .box [.int .u32 c45b.s.Own, .int .u32 c45b.s.Peer, .int .i64 c45b.s.Phase, .bool c45b.s.Leads, .int .u32 c45b.s.Seq, .ro 8 (c45b.s.Left.map THeader.c), .ro 8 (c45b.s.Got.map THeader.c), .int .i64 c45b.s.Last.MTU, .int .i64 c45b.s.Last.Options, .bool c45b.s.Last.Init, .bool c45b.s.Last.More, .bool c45b.s.Last.Master, .int .u32 c45b.s.Last.Seq, .ro 8 (c45b.s.Last.Heads.map THeader.c), .own 5 7 0 c45b.waits.length]), (5, .row 7 29 (c45b.waits.map TDesc.c))], 6⟩ (by omega) (Conv.keep [0, 1, 2, 6, 4, 7] [] [6, 7, 8, 9, 26, 27, 28] rfl rfl (viewE_cons rfl rfl (viewE_cons rfl rfl (viewE_cons rfl rfl (viewE_cons rfl rfl (viewE_cons rfl rfl (viewE_cons rfl rfl (viewE_cons rfl rfl viewE_nil))))))) rfl rfl) ⟨i28 + 1, c45a, c45b, (by omega), rfl, hL_15, rfl⟩

theorem f29_ok (s0 : TSession) (R : TSession × TDesc) (hR : F29_crossroadsref17_page s0 = some R) : FnOk Try.prog 29 [.agg (TSession.c s0)] [] 0 (.tup [.agg (TSession.c R.1), .agg (TDesc.c R.2)]) [] 0 := by
 refine FnOk.wk i29 rfl rfl ?_
 unfold F29_crossroadsref17_page at hR
 try dsimp only at hR
 change WK _ _ _ [ac29] _ ⟨[(0, .agg (TSession.c s0))], [], 0⟩
 unfold ac29
 refine WK.sr mixed ?_
 refine GX.step (v' := .ptr 0 0) (heap' := [(0, .box (TSession.c s0))]) (next' := 1) rfl rfl rfl rfl rfl rfl rfl ?_
 refine GX.step (v' := .ptr 1 0) (heap' := [(0, .box (TSession.c s0)), (1, .box [.int .u32 0, .int .u32 0, .int .i64 0, .bool false, .int .u32 0, .nils, .nils, .int .i64 0, .int .i64 0, .bool false, .bool false, .bool false, .int .u32 0, .nils])]) (next' := 2) rfl rfl rfl rfl rfl rfl rfl ?_
 refine GX.step (v' := .ptr 2 0) (heap' := [(0, .box (TSession.c s0)), (1, .box [.int .u32 0, .int .u32 0, .int .i64 0, .bool false, .int .u32 0, .nils, .nils, .int .i64 0, .int .i64 0, .bool false, .bool false, .bool false, .int .u32 0, .nils]), (2, .box [.int .i64 0, .int .i64 0, .bool false, .bool false, .bool false, .int .u32 0, .nils])]) (next' := 3) rfl rfl rfl rfl rfl rfl rfl ?_
 refine GX.done ?_
 refine WK.sr mixed ?_
 refine GX.q (.ptr 0 5) ?_
 refine GX.q (.ro 8 (s0.Left.map THeader.c)) ?_
 refine GX.pure (v' := .int .i64 (s0.Left.length : Int)) rfl rfl rfl rfl (len_map _ _) ?_
 refine GX.q (.int .i64 (min_ 10 (s0.Left.length : Int))) ?_
 refine GX.m rfl ?_
 refine GX.done ?_
 refine WK.seq ?_
 refine WK.drawn mixed ?_
 refine RD.m rfl ?_
 refine RD.q (.ptr 0 5) ?_
 refine RD.q (.ro 8 (s0.Left.map THeader.c)) ?_
 refine RD.pure (v' := .int .i64 (s0.Left.length : Int)) rfl rfl rfl rfl (len_map _ _) ?_
 refine RD.q (.bool (decide (min_ 10 (s0.Left.length : Int) < (s0.Left.length : Int)))) ?_
 refine RD.q (.ptr 0 3) ?_
 refine RD.q (.bool s0.Leads) ?_
 refine RD.q (.ptr 0 4) ?_
 refine RD.q (.int .u32 s0.Seq) ?_
 refine RD.step (v' := .own 3 8 0 (([] : List THeader)).length) (heap' := [(0, .box (TSession.c s0)), (1, .box [.int .u32 0, .int .u32 0, .int .i64 0, .bool false, .int .u32 0, .nils, .nils, .int .i64 0, .int .i64 0, .bool false, .bool false, .bool false, .int .u32 0, .nils]), (2, .box [.int .i64 0, .int .i64 0, .bool false, .bool false, .bool false, .int .u32 0, .nils]), (3, .row 8 67 (([] : List THeader).map THeader.c))]) (next' := 4) rfl rfl rfl rfl rfl rfl rfl ?_
 refine RD.q (.ptr 0 5) ?_
 refine RD.q (.ro 8 (s0.Left.map THeader.c)) ?_
 refine RD.m rfl ?_
 rcases bool_two (decide ((0 : Int) ≤ min_ 10 (s0.Left.length : Int))) with hg1 | hg1
 ·simp only [hg1, bb] at hR
  try dsimp only at hR
  cases hR
 simp only [hg1, bb] at hR
 have hg1_ := of_decide_eq_true hg1
 rcases bool_two (decide (min_ 10 (s0.Left.length : Int) ≤ (s0.Left.length : Int))) with hg2 | hg2
 ·simp only [hg2, bb] at hR
  try dsimp only at hR
  cases hR
 simp only [hg2, bb] at hR
 have hg2_ := of_decide_eq_true hg2
 refine RD.sliceHi (c := THeader.c) (M := (s0.Left.take (min_ 10 (s0.Left.length : Int)).toNat)) rfl rfl rfl (by omega) (by omega) rfl ?_
 rcases bool_two (decide ((s0.Left.take (min_ 10 (s0.Left.length : Int)).toNat).length < 1099511627776)) with hg3 | hg3
 ·simp only [hg3, bb] at hR
  try dsimp only at hR
  cases hR
 simp only [hg3, bb] at hR
 have hg3_ := of_decide_eq_true hg3
 refine RD.appT (c := THeader.c) (L := ([] : List THeader)) (X := (s0.Left.take (min_ 10 (s0.Left.length : Int)).toNat)) (heap' := [(0, .box (TSession.c s0)), (1, .box [.int .u32 0, .int .u32 0, .int .i64 0, .bool false, .int .u32 0, .nils, .nils, .int .i64 0, .int .i64 0, .bool false, .bool false, .bool false, .int .u32 0, .nils]), (2, .box [.int .i64 0, .int .i64 0, .bool false, .bool false, .bool false, .int .u32 0, .nils]), (4, .row 8 67 ((s0.Left.take (min_ 10 (s0.Left.length : Int)).toNat).map THeader.c))]) (next' := 5) rfl rfl rfl rfl elems_ro (by ((try simp only [List.length_append, List.length_cons, List.length_nil, List.length_map, decide_eq_true_eq, decide_eq_false_iff_not] at *) <;> omega)) (by ((try simp only [List.length_append, List.length_cons, List.length_nil, List.length_map, decide_eq_true_eq, decide_eq_false_iff_not] at *) <;> omega)) rfl rfl rfl rfl ?_
 refine RD.q (.agg [.int .i64 1500, .int .i64 2, .bool false, .bool (decide (min_ 10 (s0.Left.length : Int) < (s0.Left.length : Int))), .bool s0.Leads, .int .u32 s0.Seq, .own 4 8 0 (s0.Left.take (min_ 10 (s0.Left.length : Int)).toNat).length]) ?_
 refine RD.step (v' := .ptr 5 0) (heap' := [(0, .box (TSession.c s0)), (1, .box [.int .u32 0, .int .u32 0, .int .i64 0, .bool false, .int .u32 0, .nils, .nils, .int .i64 0, .int .i64 0, .bool false, .bool false, .bool false, .int .u32 0, .nils]), (2, .box [.int .i64 0, .int .i64 0, .bool false, .bool false, .bool false, .int .u32 0, .nils]), (4, .row 8 67 ((s0.Left.take (min_ 10 (s0.Left.length : Int)).toNat).map THeader.c)), (5, .box [.int .i64 0, .int .i64 0, .bool false, .bool false, .bool false, .int .u32 0, .nils])]) (next' := 6) rfl rfl rfl rfl rfl rfl rfl ?_
 refine RD.step0 (heap' := [(0, .box (TSession.c s0)), (1, .box [.int .u32 0, .int .u32 0, .int .i64 0, .bool false, .int .u32 0, .nils, .nils, .int .i64 0, .int .i64 0, .bool false, .bool false, .bool false, .int .u32 0, .nils]), (2, .box [.int .i64 0, .int .i64 0, .bool false, .bool false, .bool false, .int .u32 0, .nils]), (4, .row 8 67 ((s0.Left.take (min_ 10 (s0.Left.length : Int)).toNat).map THeader.c)), (5, .box [.int .i64 1500, .int .i64 2, .bool false, .bool (decide (min_ 10 (s0.Left.length : Int) < (s0.Left.length : Int))), .bool s0.Leads, .int .u32 s0.Seq, .own 4 8 0 (s0.Left.take (min_ 10 (s0.Left.length : Int)).toNat).length])]) (next' := 6) rfl rfl rfl rfl rfl ?_
 refine RD.done rfl ?_
 refine WK.sr mixed ?_
 refine GX.step (v' := .own 6 8 0 (([] : List THeader)).length) (heap' := [(0, .box (TSession.c s0)), (1, .box [.int .u32 0, .int .u32 0, .int .i64 0, .bool false, .int .u32 0, .nils, .nils, .int .i64 0, .int .i64 0, .bool false, .bool false, .bool false, .int .u32 0, .nils]), (2, .box [.int .i64 0, .int .i64 0, .bool false, .bool false, .bool false, .int .u32 0, .nils]), (4, .row 8 67 ((s0.Left.take (min_ 10 (s0.Left.length : Int)).toNat).map THeader.c)), (5, .box [.int .i64 1500, .int .i64 2, .bool false, .bool (decide (min_ 10 (s0.Left.length : Int) < (s0.Left.length : Int))), .bool s0.Leads, .int .u32 s0.Seq, .own 4 8 0 (s0.Left.take (min_ 10 (s0.Left.length : Int)).toNat).length]), (6, .row 8 67 (([] : List THeader).map THeader.c))]) (next' := 7) rfl rfl rfl rfl rfl rfl rfl ?_
 refine GX.q (.ptr 0 5) ?_
 refine GX.q (.ro 8 (s0.Left.map THeader.c)) ?_
 refine GX.m rfl ?_
 refine GX.sliceLo (c := THeader.c) (M := (s0.Left.drop (min_ 10 (s0.Left.length : Int)).toNat)) rfl rfl rfl (by omega) (by omega) rfl ?_
 rcases bool_two (decide ((s0.Left.drop (min_ 10 (s0.Left.length : Int)).toNat).length < 1099511627776)) with hg4 | hg4
 ·simp only [hg4, bb] at hR
  try dsimp only at hR
  cases hR
 simp only [hg4, bb] at hR
 have hg4_ := of_decide_eq_true hg4
 refine GX.appT (c := THeader.c) (L := ([] : List THeader)) (X := (s0.Left.drop (min_ 10 (s0.Left.length : Int)).toNat)) (heap' := [(0, .box (TSession.c s0)), (1, .box [.int .u32 0, .int .u32 0, .int .i64 0, .bool false, .int .u32 0, .nils, .nils, .int .i64 0, .int .i64 0, .bool false, .bool false, .bool false, .int .u32 0, .nils]), (2, .box [.int .i64 0, .int .i64 0, .bool false, .bool false, .bool false, .int .u32 0, .nils]), (4, .row 8 67 ((s0.Left.take (min_ 10 (s0.Left.length : Int)).toNat).map THeader.c)), (5, .box [.int .i64 1500, .int .i64 2, .bool false, .bool (decide (min_ 10 (s0.Left.length : Int) < (s0.Left.length : Int))), .bool s0.Leads, .int .u32 s0.Seq, .own 4 8 0 (s0.Left.take (min_ 10 (s0.Left.length : Int)).toNat).length]), (7, .row 8 67 ((s0.Left.drop (min_ 10 (s0.Left.length : Int)).toNat).map THeader.c))]) (next' := 8) rfl rfl rfl rfl elems_ro (by ((try simp only [List.length_append, List.length_cons, List.length_nil, List.length_map, decide_eq_true_eq, decide_eq_false_iff_not] at *) <;> omega)) (by ((try simp only [List.length_append, List.length_cons, List.length_nil, List.length_map, decide_eq_true_eq, decide_eq_false_iff_not] at *) <;> omega)) rfl rfl rfl rfl ?_
 refine GX.q (.ptr 0 5) ?_
 refine GX.step0 (heap' := [(0, .box [.int .u32 s0.Own, .int .u32 s0.Peer, .int .i64 s0.Phase, .bool s0.Leads, .int .u32 s0.Seq, .own 7 8 0 (s0.Left.drop (min_ 10 (s0.Left.length : Int)).toNat).length, .ro 8 (s0.Got.map THeader.c), .int .i64 s0.Last.MTU, .int .i64 s0.Last.Options, .bool s0.Last.Init, .bool s0.Last.More, .bool s0.Last.Master, .int .u32 s0.Last.Seq, .ro 8 (s0.Last.Heads.map THeader.c)]), (1, .box [.int .u32 0, .int .u32 0, .int .i64 0, .bool false, .int .u32 0, .nils, .nils, .int .i64 0, .int .i64 0, .bool false, .bool false, .bool false, .int .u32 0, .nils]), (2, .box [.int .i64 0, .int .i64 0, .bool false, .bool false, .bool false, .int .u32 0, .nils]), (4, .row 8 67 ((s0.Left.take (min_ 10 (s0.Left.length : Int)).toNat).map THeader.c)), (5, .box [.int .i64 1500, .int .i64 2, .bool false, .bool (decide (min_ 10 (s0.Left.length : Int) < (s0.Left.length : Int))), .bool s0.Leads, .int .u32 s0.Seq, .own 4 8 0 (s0.Left.take (min_ 10 (s0.Left.length : Int)).toNat).length]), (7, .row 8 67 ((s0.Left.drop (min_ 10 (s0.Left.length : Int)).toNat).map THeader.c))]) (next' := 8) rfl rfl rfl rfl rfl ?_
 refine GX.done ?_
 refine WK.sr mixed ?_
 refine GX.q (.agg [.int .i64 1500, .int .i64 2, .bool false, .bool (decide (min_ 10 (s0.Left.length : Int) < (s0.Left.length : Int))), .bool s0.Leads, .int .u32 s0.Seq, .own 4 8 0 (s0.Left.take (min_ 10 (s0.Left.length : Int)).toNat).length]) ?_
 refine GX.q (.ptr 0 7) ?_
 refine GX.step0 (heap' := [(0, .box [.int .u32 s0.Own, .int .u32 s0.Peer, .int .i64 s0.Phase, .bool s0.Leads, .int .u32 s0.Seq, .own 7 8 0 (s0.Left.drop (min_ 10 (s0.Left.length : Int)).toNat).length, .ro 8 (s0.Got.map THeader.c), .int .i64 1500, .int .i64 2, .bool false, .bool (decide (min_ 10 (s0.Left.length : Int) < (s0.Left.length : Int))), .bool s0.Leads, .int .u32 s0.Seq, .own 4 8 0 (s0.Left.take (min_ 10 (s0.Left.length : Int)).toNat).length]), (1, .box [.int .u32 0, .int .u32 0, .int .i64 0, .bool false, .int .u32 0, .nils, .nils, .int .i64 0, .int .i64 0, .bool false, .bool false, .bool false, .int .u32 0, .nils]), (2, .box [.int .i64 0, .int .i64 0, .bool false, .bool false, .bool false, .int .u32 0, .nils]), (4, .row 8 67 ((s0.Left.take (min_ 10 (s0.Left.length : Int)).toNat).map THeader.c)), (5, .box [.int .i64 1500, .int .i64 2, .bool false, .bool (decide (min_ 10 (s0.Left.length : Int) < (s0.Left.length : Int))), .bool s0.Leads, .int .u32 s0.Seq, .own 4 8 0 (s0.Left.take (min_ 10 (s0.Left.length : Int)).toNat).length]), (7, .row 8 67 ((s0.Left.drop (min_ 10 (s0.Left.length : Int)).toNat).map THeader.c))]) (next' := 8) rfl rfl rfl rfl rfl ?_
 refine GX.done ?_
 refine WK.seq ?_
 refine WK.drawn mixed ?_
 refine RD.q (.agg [.int .u32 s0.Own, .int .u32 s0.Peer, .int .i64 s0.Phase, .bool s0.Leads, .int .u32 s0.Seq, .own 7 8 0 (s0.Left.drop (min_ 10 (s0.Left.length : Int)).toNat).length, .ro 8 (s0.Got.map THeader.c), .int .i64 1500, .int .i64 2, .bool false, .bool (decide (min_ 10 (s0.Left.length : Int) < (s0.Left.length : Int))), .bool s0.Leads, .int .u32 s0.Seq, .own 4 8 0 (s0.Left.take (min_ 10 (s0.Left.length : Int)).toNat).length]) ?_
 refine RD.q (.agg [.int .i64 1500, .int .i64 2, .bool false, .bool (decide (min_ 10 (s0.Left.length : Int) < (s0.Left.length : Int))), .bool s0.Leads, .int .u32 s0.Seq, .own 4 8 0 (s0.Left.take (min_ 10 (s0.Left.length : Int)).toNat).length]) ?_
 refine RD.step0 (heap' := [(0, .box [.int .u32 s0.Own, .int .u32 s0.Peer, .int .i64 s0.Phase, .bool s0.Leads, .int .u32 s0.Seq, .own 7 8 0 (s0.Left.drop (min_ 10 (s0.Left.length : Int)).toNat).length, .ro 8 (s0.Got.map THeader.c), .int .i64 1500, .int .i64 2, .bool false, .bool (decide (min_ 10 (s0.Left.length : Int) < (s0.Left.length : Int))), .bool s0.Leads, .int .u32 s0.Seq, .own 4 8 0 (s0.Left.take (min_ 10 (s0.Left.length : Int)).toNat).length]), (1, .box [.int .u32 s0.Own, .int .u32 s0.Peer, .int .i64 s0.Phase, .bool s0.Leads, .int .u32 s0.Seq, .own 7 8 0 (s0.Left.drop (min_ 10 (s0.Left.length : Int)).toNat).length, .ro 8 (s0.Got.map THeader.c), .int .i64 1500, .int .i64 2, .bool false, .bool (decide (min_ 10 (s0.Left.length : Int) < (s0.Left.length : Int))), .bool s0.Leads, .int .u32 s0.Seq, .own 4 8 0 (s0.Left.take (min_ 10 (s0.Left.length : Int)).toNat).length]), (2, .box [.int .i64 0, .int .i64 0, .bool false, .bool false, .bool false, .int .u32 0, .nils]), (4, .row 8 67 ((s0.Left.take (min_ 10 (s0.Left.length : Int)).toNat).map THeader.c)), (5, .box [.int .i64 1500, .int .i64 2, .bool false, .bool (decide (min_ 10 (s0.Left.length : Int) < (s0.Left.length : Int))), .bool s0.Leads, .int .u32 s0.Seq, .own 4 8 0 (s0.Left.take (min_ 10 (s0.Left.length : Int)).toNat).length]), (7, .row 8 67 ((s0.Left.drop (min_ 10 (s0.Left.length : Int)).toNat).map THeader.c))]) (next' := 8) rfl rfl rfl rfl rfl ?_
 refine RD.step0 (heap' := [(0, .box [.int .u32 s0.Own, .int .u32 s0.Peer, .int .i64 s0.Phase, .bool s0.Leads, .int .u32 s0.Seq, .own 7 8 0 (s0.Left.drop (min_ 10 (s0.Left.length : Int)).toNat).length, .ro 8 (s0.Got.map THeader.c), .int .i64 1500, .int .i64 2, .bool false, .bool (decide (min_ 10 (s0.Left.length : Int) < (s0.Left.length : Int))), .bool s0.Leads, .int .u32 s0.Seq, .own 4 8 0 (s0.Left.take (min_ 10 (s0.Left.length : Int)).toNat).length]), (1, .box [.int .u32 s0.Own, .int .u32 s0.Peer, .int .i64 s0.Phase, .bool s0.Leads, .int .u32 s0.Seq, .own 7 8 0 (s0.Left.drop (min_ 10 (s0.Left.length : Int)).toNat).length, .ro 8 (s0.Got.map THeader.c), .int .i64 1500, .int .i64 2, .bool false, .bool (decide (min_ 10 (s0.Left.length : Int) < (s0.Left.length : Int))), .bool s0.Leads, .int .u32 s0.Seq, .own 4 8 0 (s0.Left.take (min_ 10 (s0.Left.length : Int)).toNat).length]), (2, .box [.int .i64 1500, .int .i64 2, .bool false, .bool (decide (min_ 10 (s0.Left.length : Int) < (s0.Left.length : Int))), .bool s0.Leads, .int .u32 s0.Seq, .own 4 8 0 (s0.Left.take (min_ 10 (s0.Left.length : Int)).toNat).length]), (4, .row 8 67 ((s0.Left.take (min_ 10 (s0.Left.length : Int)).toNat).map THeader.c)), (5, .box [.int .i64 1500, .int .i64 2, .bool false, .bool (decide (min_ 10 (s0.Left.length : Int) < (s0.Left.length : Int))), .bool s0.Leads, .int .u32 s0.Seq, .own 4 8 0 (s0.Left.take (min_ 10 (s0.Left.length : Int)).toNat).length]), (7, .row 8 67 ((s0.Left.drop (min_ 10 (s0.Left.length : Int)).toNat).map THeader.c))]) (next' := 8) rfl rfl rfl rfl rfl ?_
 refine RD.done rfl ?_
 refine WK.ret ?_
 obtain rfl := Option.some.inj hR
 exact RetQ.fr [7, 4] (.inr rfl) rfl rfl (viewGo_cons (viewP_agg (viewGo_cons rfl (viewGo_cons rfl (viewGo_cons rfl (viewGo_cons rfl (viewGo_cons rfl (viewGo_cons (view_rowT rfl rfl) (viewGo_cons rfl (viewGo_cons rfl (viewGo_cons rfl (viewGo_cons rfl (viewGo_cons rfl (viewGo_cons rfl (viewGo_cons rfl (viewGo_cons (view_rowT rfl rfl) viewGo_nil))))))))))))))) (viewGo_cons (viewP_agg (viewGo_cons rfl (viewGo_cons rfl (viewGo_cons rfl (viewGo_cons rfl (viewGo_cons rfl (viewGo_cons rfl (viewGo_cons (view_rowT rfl rfl) viewGo_nil)))))))) viewGo_nil)) rfl

theorem f48_ok (s0 : TSession) (d1 : TDesc) (R : TSession) (hR : F48_crossroadsref17_got s0 d1 = some R) : FnOk Try.prog 48 [.agg (TSession.c s0), .agg (TDesc.c d1)] [] 0 (.agg (TSession.c R)) [] 0 := by
 refine FnOk.wk i48 rfl rfl ?_
 unfold F48_crossroadsref17_got at hR
 try dsimp only at hR
 change WK _ _ _ [ac48] _ ⟨[(0, .agg (TSession.c s0)), (1, .agg (TDesc.c d1))], [], 0⟩
 unfold ac48
 refine WK.sr mixed ?_
 refine GX.step (v' := .ptr 0 0) (heap' := [(0, .box (TSession.c s0))]) (next' := 1) rfl rfl rfl rfl rfl rfl rfl ?_
 refine GX.step (v' := .ptr 1 0) (heap' := [(0, .box (TSession.c s0)), (1, .box (TDesc.c d1))]) (next' := 2) rfl rfl rfl rfl rfl rfl rfl ?_
 refine GX.step (v' := .ptr 2 0) (heap' := [(0, .box (TSession.c s0)), (1, .box (TDesc.c d1)), (2, .box [.int .u32 0, .int .u32 0, .int .i64 0, .bool false, .int .u32 0, .nils, .nils, .int .i64 0, .int .i64 0, .bool false, .bool false, .bool false, .int .u32 0, .nils])]) (next' := 3) rfl rfl rfl rfl rfl rfl rfl ?_
 refine GX.done ?_
 refine WK.sr mixed ?_
 refine GX.step (v' := .own 3 8 0 (([] : List THeader)).length) (heap' := [(0, .box (TSession.c s0)), (1, .box (TDesc.c d1)), (2, .box [.int .u32 0, .int .u32 0, .int .i64 0, .bool false, .int .u32 0, .nils, .nils, .int .i64 0, .int .i64 0, .bool false, .bool false, .bool false, .int .u32 0, .nils]), (3, .row 8 67 (([] : List THeader).map THeader.c))]) (next' := 4) rfl rfl rfl rfl rfl rfl rfl ?_
 refine GX.q (.ptr 0 6) ?_
 refine GX.q (.ro 8 (s0.Got.map THeader.c)) ?_
 rcases bool_two (decide (s0.Got.length < 1099511627776)) with hg1 | hg1
 ·simp only [hg1, bb] at hR
  try dsimp only at hR
  cases hR
 simp only [hg1, bb] at hR
 have hg1_ := of_decide_eq_true hg1
 refine GX.appT (c := THeader.c) (L := ([] : List THeader)) (X := s0.Got) (heap' := [(0, .box (TSession.c s0)), (1, .box (TDesc.c d1)), (2, .box [.int .u32 0, .int .u32 0, .int .i64 0, .bool false, .int .u32 0, .nils, .nils, .int .i64 0, .int .i64 0, .bool false, .bool false, .bool false, .int .u32 0, .nils]), (4, .row 8 67 (s0.Got.map THeader.c))]) (next' := 5) rfl rfl rfl rfl elems_ro (by ((try simp only [List.length_append, List.length_cons, List.length_nil, List.length_map, decide_eq_true_eq, decide_eq_false_iff_not] at *) <;> omega)) (by ((try simp only [List.length_append, List.length_cons, List.length_nil, List.length_map, decide_eq_true_eq, decide_eq_false_iff_not] at *) <;> omega)) rfl rfl rfl rfl ?_
 refine GX.m rfl ?_
 refine GX.done ?_
 refine WK.sr mixed ?_
 refine GX.m rfl ?_
 refine GX.q (.ptr 1 6) ?_
 refine GX.q (.ro 8 (d1.Heads.map THeader.c)) ?_
 rcases bool_two (decide (d1.Heads.length < 1099511627776)) with hg2 | hg2
 ·simp only [hg2, bb] at hR
  try dsimp only at hR
  cases hR
 simp only [hg2, bb] at hR
 have hg2_ := of_decide_eq_true hg2
 refine GX.appT (c := THeader.c) (L := s0.Got) (X := d1.Heads) (heap' := [(0, .box (TSession.c s0)), (1, .box (TDesc.c d1)), (2, .box [.int .u32 0, .int .u32 0, .int .i64 0, .bool false, .int .u32 0, .nils, .nils, .int .i64 0, .int .i64 0, .bool false, .bool false, .bool false, .int .u32 0, .nils]), (5, .row 8 67 ((s0.Got ++ d1.Heads).map THeader.c))]) (next' := 6) rfl rfl rfl rfl elems_ro (by omega) (by omega) rfl rfl rfl rfl ?_
 refine GX.m rfl ?_
 refine GX.done ?_
 refine WK.sr mixed ?_
 refine GX.m rfl ?_
 refine GX.q (.ptr 0 6) ?_
 refine GX.step0 (heap' := [(0, .box [.int .u32 s0.Own, .int .u32 s0.Peer, .int .i64 s0.Phase, .bool s0.Leads, .int .u32 s0.Seq, .ro 8 (s0.Left.map THeader.c), .own 5 8 0 (s0.Got ++ d1.Heads).length, .int .i64 s0.Last.MTU, .int .i64 s0.Last.Options, .bool s0.Last.Init, .bool s0.Last.More, .bool s0.Last.Master, .int .u32 s0.Last.Seq, .ro 8 (s0.Last.Heads.map THeader.c)]), (1, .box (TDesc.c d1)), (2, .box [.int .u32 0, .int .u32 0, .int .i64 0, .bool false, .int .u32 0, .nils, .nils, .int .i64 0, .int .i64 0, .bool false, .bool false, .bool false, .int .u32 0, .nils]), (5, .row 8 67 ((s0.Got ++ d1.Heads).map THeader.c))]) (next' := 6) rfl rfl rfl rfl rfl ?_
 refine GX.done ?_
 refine WK.sr mixed ?_
 refine GX.q (.agg [.int .u32 s0.Own, .int .u32 s0.Peer, .int .i64 s0.Phase, .bool s0.Leads, .int .u32 s0.Seq, .ro 8 (s0.Left.map THeader.c), .own 5 8 0 (s0.Got ++ d1.Heads).length, .int .i64 s0.Last.MTU, .int .i64 s0.Last.Options, .bool s0.Last.Init, .bool s0.Last.More, .bool s0.Last.Master, .int .u32 s0.Last.Seq, .ro 8 (s0.Last.Heads.map THeader.c)]) ?_
 refine GX.step0 (heap' := [(0, .box [.int .u32 s0.Own, .int .u32 s0.Peer, .int .i64 s0.Phase, .bool s0.Leads, .int .u32 s0.Seq, .ro 8 (s0.Left.map THeader.c), .own 5 8 0 (s0.Got ++ d1.Heads).length, .int .i64 s0.Last.MTU, .int .i64 s0.Last.Options, .bool s0.Last.Init, .bool s0.Last.More, .bool s0.Last.Master, .int .u32 s0.Last.Seq, .ro 8 (s0.Last.Heads.map THeader.c)]), (1, .box (TDesc.c d1)), (2, .box [.int .u32 s0.Own, .int .u32 s0.Peer, .int .i64 s0.Phase, .bool s0.Leads, .int .u32 s0.Seq, .ro 8 (s0.Left.map THeader.c), .own 5 8 0 (s0.Got ++ d1.Heads).length, .int .i64 s0.Last.MTU, .int .i64 s0.Last.Options, .bool s0.Last.Init, .bool s0.Last.More, .bool s0.Last.Master, .int .u32 s0.Last.Seq, .ro 8 (s0.Last.Heads.map THeader.c)]), (5, .row 8 67 ((s0.Got ++ d1.Heads).map THeader.c))]) (next' := 6) rfl rfl rfl rfl rfl ?_
 refine GX.done ?_
 refine WK.ret ?_
 obtain rfl := Option.some.inj hR
 exact RetQ.fr [5] (.inr rfl) rfl rfl (viewGo_cons (viewP_agg (viewGo_cons rfl (viewGo_cons rfl (viewGo_cons rfl (viewGo_cons rfl (viewGo_cons rfl (viewGo_cons rfl (viewGo_cons (view_rowT rfl rfl) (viewGo_cons rfl (viewGo_cons rfl (viewGo_cons rfl (viewGo_cons rfl (viewGo_cons rfl (viewGo_cons rfl (viewGo_cons rfl viewGo_nil))))))))))))))) viewGo_nil) rfl

theorem f30_ok (s0 : TSession) (d1 : TDesc) (R : TSession × TDesc × Bool × Int) (hR : F30_crossroadsref17_lead s0 d1 = some R) : FnOk Try.prog 30 [.agg (TSession.c s0), .agg (TDesc.c d1)] [] 0 (.tup [.agg (TSession.c R.1), .agg (TDesc.c R.2.1), .bool R.2.2.1, .int .i64 R.2.2.2]) [] 0 := by
 refine FnOk.wk i30 rfl rfl ?_
 unfold F30_crossroadsref17_lead at hR
 try dsimp only at hR
 change WK _ _ _ [ac30] _ ⟨[(0, .agg (TSession.c s0)), (1, .agg (TDesc.c d1))], [], 0⟩
 unfold ac30
 refine WK.sr mixed ?_
 refine GX.step (v' := .ptr 0 0) (heap' := [(0, .box (TSession.c s0))]) (next' := 1) rfl rfl rfl rfl rfl rfl rfl ?_
 refine GX.step (v' := .ptr 1 0) (heap' := [(0, .box (TSession.c s0)), (1, .box (TDesc.c d1))]) (next' := 2) rfl rfl rfl rfl rfl rfl rfl ?_
 refine GX.step (v' := .ptr 2 0) (heap' := [(0, .box (TSession.c s0)), (1, .box (TDesc.c d1)), (2, .box [.int .u32 0, .int .u32 0, .int .i64 0, .bool false, .int .u32 0, .nils, .nils, .int .i64 0, .int .i64 0, .bool false, .bool false, .bool false, .int .u32 0, .nils])]) (next' := 3) rfl rfl rfl rfl rfl rfl rfl ?_
 refine GX.step (v' := .ptr 3 0) (heap' := [(0, .box (TSession.c s0)), (1, .box (TDesc.c d1)), (2, .box [.int .u32 0, .int .u32 0, .int .i64 0, .bool false, .int .u32 0, .nils, .nils, .int .i64 0, .int .i64 0, .bool false, .bool false, .bool false, .int .u32 0, .nils]), (3, .box [.int .i64 0, .int .i64 0, .bool false, .bool false, .bool false, .int .u32 0, .nils])]) (next' := 4) rfl rfl rfl rfl rfl rfl rfl ?_
 iterate 2 refine GX.m rfl ?_
 refine GX.done ?_
 refine WK.sr mixed ?_
 refine GX.q (.agg [.int .i64 0, .int .i64 0, .bool false, .bool false, .bool false, .int .u32 0, .nils]) ?_
 refine GX.step (v' := .ptr 4 0) (heap' := [(0, .box (TSession.c s0)), (1, .box (TDesc.c d1)), (2, .box [.int .u32 0, .int .u32 0, .int .i64 0, .bool false, .int .u32 0, .nils, .nils, .int .i64 0, .int .i64 0, .bool false, .bool false, .bool false, .int .u32 0, .nils]), (3, .box [.int .i64 0, .int .i64 0, .bool false, .bool false, .bool false, .int .u32 0, .nils]), (4, .box [.int .i64 0, .int .i64 0, .bool false, .bool false, .bool false, .int .u32 0, .nils])]) (next' := 5) rfl rfl rfl rfl rfl rfl rfl ?_
 refine GX.step0 (heap' := [(0, .box (TSession.c s0)), (1, .box (TDesc.c d1)), (2, .box [.int .u32 0, .int .u32 0, .int .i64 0, .bool false, .int .u32 0, .nils, .nils, .int .i64 0, .int .i64 0, .bool false, .bool false, .bool false, .int .u32 0, .nils]), (3, .box [.int .i64 0, .int .i64 0, .bool false, .bool false, .bool false, .int .u32 0, .nils]), (4, .box [.int .i64 0, .int .i64 0, .bool false, .bool false, .bool false, .int .u32 0, .nils])]) (next' := 5) rfl rfl rfl rfl rfl ?_
 refine GX.done ?_
 refine WK.seq ?_
 refine WK.sr mixed ?_
 refine GX.q (.ptr 1 5) ?_
 refine GX.q (.int .u32 d1.Seq) ?_
 refine GX.q (.ptr 0 4) ?_
 refine GX.q (.int .u32 s0.Seq) ?_
 refine GX.q (.int .u32 (IntKind.u32.wrap (s0.Seq - 1))) ?_
 refine GX.q (.bool (decide (d1.Seq = IntKind.u32.wrap (s0.Seq - 1)))) ?_
 refine GX.done ?_
 rcases bool_two (decide (d1.Seq = IntKind.u32.wrap (s0.Seq - 1))) with hb1 | hb1
 ·rw [hb1]; first | replace hR := cond_f hb1 hR | (try simp only [hb1, bb] at hR)
  refine WK.condF rfl ?_
  refine WK.skip ?_
  refine WK.seq ?_
  refine WK.sr mixed ?_
  refine GX.q (.ptr 1 5) ?_
  refine GX.q (.int .u32 d1.Seq) ?_
  refine GX.q (.ptr 0 4) ?_
  refine GX.q (.int .u32 s0.Seq) ?_
  refine GX.q (.bool (!decide (d1.Seq = s0.Seq))) ?_
  refine GX.done ?_
  rcases bool_two (decide (d1.Seq = s0.Seq)) with hb2 | hb2
  ·rw [hb2]; first | replace hR := cond_f hb2 hR | (try simp only [hb2, bb] at hR)
   refine WK.condT rfl ?_
   refine WK.seq ?_
   refine WK.drawn mixed ?_
   refine RD.q (.agg (TSession.c s0)) ?_
   refine RD.q (.agg [.int .i64 0, .int .i64 0, .bool false, .bool false, .bool false, .int .u32 0, .nils]) ?_
   iterate 2 refine RD.step0 (heap' := [(0, .box (TSession.c s0)), (1, .box (TDesc.c d1)), (2, .box (TSession.c s0)), (3, .box [.int .i64 0, .int .i64 0, .bool false, .bool false, .bool false, .int .u32 0, .nils]), (4, .box [.int .i64 0, .int .i64 0, .bool false, .bool false, .bool false, .int .u32 0, .nils])]) (next' := 5) rfl rfl rfl rfl rfl ?_
   iterate 2 refine RD.m rfl ?_
   refine RD.done rfl ?_
   refine WK.ret ?_
   obtain rfl := Option.some.inj hR
   exact RetQ.frw [] (.inr rfl) rfl rfl rfl (.tup (.cons .refl (.cons (.agg (.cons .refl (.cons .refl (.cons .refl (.cons .refl (.cons .refl (.cons .refl (.cons .nil .refl)))))))) .refl)))
  ·rw [hb2]; first | replace hR := cond_t hb2 hR | (try simp only [hb2, bb] at hR)
   refine WK.condF rfl ?_
   refine WK.skip ?_
   refine WK.seq ?_
   refine WK.sr mixed ?_
   refine GX.q (.ptr 0 2) ?_
   refine GX.q (.int .i64 s0.Phase) ?_
   refine GX.q (.bool (decide (s0.Phase = 2))) ?_
   refine GX.done ?_
   rcases bool_two (decide (s0.Phase = 2)) with hb3 | hb3
   ·rw [hb3]; first | replace hR := cond_f hb3 hR | (try simp only [hb3, bb] at hR)
    refine WK.condF rfl ?_
    refine WK.skip ?_
    refine WK.sr mixed ?_
    refine GX.q (.agg (TSession.c s0)) ?_
    refine GX.q (.agg (TDesc.c d1)) ?_
    generalize hc34 : F48_crossroadsref17_got s0 d1 = c34 at hR
    rcases c34 with _ | c34
    ·try dsimp only at hR
     cases hR
    try dsimp only at hR
    try dsimp only at hR
    refine GX.callp (r := .agg [.int .u32 c34.Own, .int .u32 c34.Peer, .int .i64 c34.Phase, .bool c34.Leads, .int .u32 c34.Seq, .ro 8 (c34.Left.map THeader.c), .ro 8 (c34.Got.map THeader.c), .int .i64 c34.Last.MTU, .int .i64 c34.Last.Options, .bool c34.Last.Init, .bool c34.Last.More, .bool c34.Last.Master, .int .u32 c34.Last.Seq, .ro 8 (c34.Last.Heads.map THeader.c)]) rfl rfl rfl (f48_ok s0 d1 _ hc34) rfl rfl ?_
    refine GX.step0 (heap' := [(0, .box (TSession.c c34)), (1, .box (TDesc.c d1)), (2, .box [.int .u32 0, .int .u32 0, .int .i64 0, .bool false, .int .u32 0, .nils, .nils, .int .i64 0, .int .i64 0, .bool false, .bool false, .bool false, .int .u32 0, .nils]), (3, .box [.int .i64 0, .int .i64 0, .bool false, .bool false, .bool false, .int .u32 0, .nils]), (4, .box [.int .i64 0, .int .i64 0, .bool false, .bool false, .bool false, .int .u32 0, .nils])]) (next' := 5) rfl rfl rfl rfl rfl ?_
    refine GX.done ?_
    refine WK.seq ?_
    refine WK.sr mixed ?_
    refine GX.q (.ptr 0 7) ?_
    refine GX.q (.ptr 0 10) ?_
    refine GX.q (.bool c34.Last.More) ?_
    refine GX.q (.bool (!c34.Last.More)) ?_
    refine GX.m rfl ?_
    rcases bool_two (c34.Last.More) with hb4 | hb4
    ·rw [hb4]; first | replace hR := cond_f hb4 hR | (try simp only [hb4, bb] at hR)
     refine GX.q (.ptr 1 3) ?_
     refine GX.q (.bool d1.More) ?_
     iterate 2 refine GX.q (.bool (!d1.More)) ?_
     refine GX.done ?_
     rcases bool_two (d1.More) with hb5 | hb5
     ·rw [hb5]; first | replace hR := cond_f hb5 hR | (try simp only [hb5, bb] at hR)
      refine WK.condT rfl ?_
      refine WK.sr mixed ?_
      refine GX.q (.ptr 0 2) ?_
      refine GX.step0 (heap' := [(0, .box [.int .u32 c34.Own, .int .u32 c34.Peer, .int .i64 2, .bool c34.Leads, .int .u32 c34.Seq, .ro 8 (c34.Left.map THeader.c), .ro 8 (c34.Got.map THeader.c), .int .i64 c34.Last.MTU, .int .i64 c34.Last.Options, .bool c34.Last.Init, .bool c34.Last.More, .bool c34.Last.Master, .int .u32 c34.Last.Seq, .ro 8 (c34.Last.Heads.map THeader.c)]), (1, .box (TDesc.c d1)), (2, .box [.int .u32 0, .int .u32 0, .int .i64 0, .bool false, .int .u32 0, .nils, .nils, .int .i64 0, .int .i64 0, .bool false, .bool false, .bool false, .int .u32 0, .nils]), (3, .box [.int .i64 0, .int .i64 0, .bool false, .bool false, .bool false, .int .u32 0, .nils]), (4, .box [.int .i64 0, .int .i64 0, .bool false, .bool false, .bool false, .int .u32 0, .nils])]) (next' := 5) rfl rfl rfl rfl rfl ?_
      refine GX.done ?_
      refine WK.seq ?_
      refine WK.drawn mixed ?_
      refine RD.q (.agg [.int .u32 c34.Own, .int .u32 c34.Peer, .int .i64 2, .bool c34.Leads, .int .u32 c34.Seq, .ro 8 (c34.Left.map THeader.c), .ro 8 (c34.Got.map THeader.c), .int .i64 c34.Last.MTU, .int .i64 c34.Last.Options, .bool c34.Last.Init, .bool c34.Last.More, .bool c34.Last.Master, .int .u32 c34.Last.Seq, .ro 8 (c34.Last.Heads.map THeader.c)]) ?_
      refine RD.q (.agg [.int .i64 0, .int .i64 0, .bool false, .bool false, .bool false, .int .u32 0, .nils]) ?_
      iterate 2 refine RD.step0 (heap' := [(0, .box [.int .u32 c34.Own, .int .u32 c34.Peer, .int .i64 2, .bool c34.Leads, .int .u32 c34.Seq, .ro 8 (c34.Left.map THeader.c), .ro 8 (c34.Got.map THeader.c), .int .i64 c34.Last.MTU, .int .i64 c34.Last.Options, .bool c34.Last.Init, .bool c34.Last.More, .bool c34.Last.Master, .int .u32 c34.Last.Seq, .ro 8 (c34.Last.Heads.map THeader.c)]), (1, .box (TDesc.c d1)), (2, .box [.int .u32 c34.Own, .int .u32 c34.Peer, .int .i64 2, .bool c34.Leads, .int .u32 c34.Seq, .ro 8 (c34.Left.map THeader.c), .ro 8 (c34.Got.map THeader.c), .int .i64 c34.Last.MTU, .int .i64 c34.Last.Options, .bool c34.Last.Init, .bool c34.Last.More, .bool c34.Last.Master, .int .u32 c34.Last.Seq, .ro 8 (c34.Last.Heads.map THeader.c)]), (3, .box [.int .i64 0, .int .i64 0, .bool false, .bool false, .bool false, .int .u32 0, .nils]), (4, .box [.int .i64 0, .int .i64 0, .bool false, .bool false, .bool false, .int .u32 0, .nils])]) (next' := 5) rfl rfl rfl rfl rfl ?_
      iterate 2 refine RD.m rfl ?_
      refine RD.done rfl ?_
      refine WK.ret ?_
      obtain rfl := Option.some.inj hR
      exact RetQ.frw [] (.inr rfl) rfl rfl rfl (.tup (.cons .refl (.cons (.agg (.cons .refl (.cons .refl (.cons .refl (.cons .refl (.cons .refl (.cons .refl (.cons .nil .refl)))))))) .refl)))
     ·rw [hb5]; first | replace hR := cond_t hb5 hR | (try simp only [hb5, bb] at hR)
      refine WK.condF rfl ?_
      refine WK.skip ?_
      refine WK.sr mixed ?_
      refine GX.q (.ptr 0 4) ?_
      refine GX.q (.int .u32 c34.Seq) ?_
      refine GX.q (.int .u32 (IntKind.u32.wrap (c34.Seq + 1))) ?_
      refine GX.q (.ptr 0 4) ?_
      refine GX.step0 (heap' := [(0, .box [.int .u32 c34.Own, .int .u32 c34.Peer, .int .i64 c34.Phase, .bool c34.Leads, .int .u32 (IntKind.u32.wrap (c34.Seq + 1)), .ro 8 (c34.Left.map THeader.c), .ro 8 (c34.Got.map THeader.c), .int .i64 c34.Last.MTU, .int .i64 c34.Last.Options, .bool c34.Last.Init, .bool c34.Last.More, .bool c34.Last.Master, .int .u32 c34.Last.Seq, .ro 8 (c34.Last.Heads.map THeader.c)]), (1, .box (TDesc.c d1)), (2, .box [.int .u32 0, .int .u32 0, .int .i64 0, .bool false, .int .u32 0, .nils, .nils, .int .i64 0, .int .i64 0, .bool false, .bool false, .bool false, .int .u32 0, .nils]), (3, .box [.int .i64 0, .int .i64 0, .bool false, .bool false, .bool false, .int .u32 0, .nils]), (4, .box [.int .i64 0, .int .i64 0, .bool false, .bool false, .bool false, .int .u32 0, .nils])]) (next' := 5) rfl rfl rfl rfl rfl ?_
      refine GX.done ?_
      refine WK.sr mixed ?_
      refine GX.q (.agg [.int .u32 c34.Own, .int .u32 c34.Peer, .int .i64 c34.Phase, .bool c34.Leads, .int .u32 (IntKind.u32.wrap (c34.Seq + 1)), .ro 8 (c34.Left.map THeader.c), .ro 8 (c34.Got.map THeader.c), .int .i64 c34.Last.MTU, .int .i64 c34.Last.Options, .bool c34.Last.Init, .bool c34.Last.More, .bool c34.Last.Master, .int .u32 c34.Last.Seq, .ro 8 (c34.Last.Heads.map THeader.c)]) ?_
      generalize hc53 : F29_crossroadsref17_page (⟨c34.Own, c34.Peer, c34.Phase, c34.Leads, IntKind.u32.wrap (c34.Seq + 1), c34.Left, c34.Got, c34.Last⟩ : TSession) = c53 at hR
      rcases c53 with _ | c53
      ·try dsimp only at hR
       cases hR
      try dsimp only at hR
      obtain ⟨c53a, c53b⟩ := c53; try dsimp only at hR
      refine GX.callp (r := .tup [.agg [.int .u32 c53a.Own, .int .u32 c53a.Peer, .int .i64 c53a.Phase, .bool c53a.Leads, .int .u32 c53a.Seq, .ro 8 (c53a.Left.map THeader.c), .ro 8 (c53a.Got.map THeader.c), .int .i64 c53a.Last.MTU, .int .i64 c53a.Last.Options, .bool c53a.Last.Init, .bool c53a.Last.More, .bool c53a.Last.Master, .int .u32 c53a.Last.Seq, .ro 8 (c53a.Last.Heads.map THeader.c)], .agg [.int .i64 c53b.MTU, .int .i64 c53b.Options, .bool c53b.Init, .bool c53b.More, .bool c53b.Master, .int .u32 c53b.Seq, .ro 8 (c53b.Heads.map THeader.c)]]) rfl rfl rfl (f29_ok (⟨c34.Own, c34.Peer, c34.Phase, c34.Leads, IntKind.u32.wrap (c34.Seq + 1), c34.Left, c34.Got, c34.Last⟩ : TSession) _ hc53) rfl rfl ?_
      refine GX.m rfl ?_
      refine GX.q (.agg [.int .u32 c53a.Own, .int .u32 c53a.Peer, .int .i64 c53a.Phase, .bool c53a.Leads, .int .u32 c53a.Seq, .ro 8 (c53a.Left.map THeader.c), .ro 8 (c53a.Got.map THeader.c), .int .i64 c53a.Last.MTU, .int .i64 c53a.Last.Options, .bool c53a.Last.Init, .bool c53a.Last.More, .bool c53a.Last.Master, .int .u32 c53a.Last.Seq, .ro 8 (c53a.Last.Heads.map THeader.c)]) ?_
      refine GX.q (.agg [.int .i64 c53b.MTU, .int .i64 c53b.Options, .bool c53b.Init, .bool c53b.More, .bool c53b.Master, .int .u32 c53b.Seq, .ro 8 (c53b.Heads.map THeader.c)]) ?_
      refine GX.step (v' := .ptr 5 0) (heap' := [(0, .box [.int .u32 c34.Own, .int .u32 c34.Peer, .int .i64 c34.Phase, .bool c34.Leads, .int .u32 (IntKind.u32.wrap (c34.Seq + 1)), .ro 8 (c34.Left.map THeader.c), .ro 8 (c34.Got.map THeader.c), .int .i64 c34.Last.MTU, .int .i64 c34.Last.Options, .bool c34.Last.Init, .bool c34.Last.More, .bool c34.Last.Master, .int .u32 c34.Last.Seq, .ro 8 (c34.Last.Heads.map THeader.c)]), (1, .box (TDesc.c d1)), (2, .box [.int .u32 0, .int .u32 0, .int .i64 0, .bool false, .int .u32 0, .nils, .nils, .int .i64 0, .int .i64 0, .bool false, .bool false, .bool false, .int .u32 0, .nils]), (3, .box [.int .i64 0, .int .i64 0, .bool false, .bool false, .bool false, .int .u32 0, .nils]), (4, .box [.int .i64 0, .int .i64 0, .bool false, .bool false, .bool false, .int .u32 0, .nils]), (5, .box [.int .u32 0, .int .u32 0, .int .i64 0, .bool false, .int .u32 0, .nils, .nils, .int .i64 0, .int .i64 0, .bool false, .bool false, .bool false, .int .u32 0, .nils])]) (next' := 6) rfl rfl rfl rfl rfl rfl rfl ?_
      refine GX.step (v' := .ptr 6 0) (heap' := [(0, .box [.int .u32 c34.Own, .int .u32 c34.Peer, .int .i64 c34.Phase, .bool c34.Leads, .int .u32 (IntKind.u32.wrap (c34.Seq + 1)), .ro 8 (c34.Left.map THeader.c), .ro 8 (c34.Got.map THeader.c), .int .i64 c34.Last.MTU, .int .i64 c34.Last.Options, .bool c34.Last.Init, .bool c34.Last.More, .bool c34.Last.Master, .int .u32 c34.Last.Seq, .ro 8 (c34.Last.Heads.map THeader.c)]), (1, .box (TDesc.c d1)), (2, .box [.int .u32 0, .int .u32 0, .int .i64 0, .bool false, .int .u32 0, .nils, .nils, .int .i64 0, .int .i64 0, .bool false, .bool false, .bool false, .int .u32 0, .nils]), (3, .box [.int .i64 0, .int .i64 0, .bool false, .bool false, .bool false, .int .u32 0, .nils]), (4, .box [.int .i64 0, .int .i64 0, .bool false, .bool false, .bool false, .int .u32 0, .nils]), (5, .box [.int .u32 0, .int .u32 0, .int .i64 0, .bool false, .int .u32 0, .nils, .nils, .int .i64 0, .int .i64 0, .bool false, .bool false, .bool false, .int .u32 0, .nils]), (6, .box [.int .i64 0, .int .i64 0, .bool false, .bool false, .bool false, .int .u32 0, .nils])]) (next' := 7) rfl rfl rfl rfl rfl rfl rfl ?_
      refine GX.step0 (heap' := [(0, .box [.int .u32 c34.Own, .int .u32 c34.Peer, .int .i64 c34.Phase, .bool c34.Leads, .int .u32 (IntKind.u32.wrap (c34.Seq + 1)), .ro 8 (c34.Left.map THeader.c), .ro 8 (c34.Got.map THeader.c), .int .i64 c34.Last.MTU, .int .i64 c34.Last.Options, .bool c34.Last.Init, .bool c34.Last.More, .bool c34.Last.Master, .int .u32 c34.Last.Seq, .ro 8 (c34.Last.Heads.map THeader.c)]), (1, .box (TDesc.c d1)), (2, .box [.int .u32 0, .int .u32 0, .int .i64 0, .bool false, .int .u32 0, .nils, .nils, .int .i64 0, .int .i64 0, .bool false, .bool false, .bool false, .int .u32 0, .nils]), (3, .box [.int .i64 0, .int .i64 0, .bool false, .bool false, .bool false, .int .u32 0, .nils]), (4, .box [.int .i64 0, .int .i64 0, .bool false, .bool false, .bool false, .int .u32 0, .nils]), (5, .box (TSession.c c53a)), (6, .box [.int .i64 0, .int .i64 0, .bool false, .bool false, .bool false, .int .u32 0, .nils])]) (next' := 7) rfl rfl rfl rfl rfl ?_
      refine GX.step0 (heap' := [(0, .box [.int .u32 c34.Own, .int .u32 c34.Peer, .int .i64 c34.Phase, .bool c34.Leads, .int .u32 (IntKind.u32.wrap (c34.Seq + 1)), .ro 8 (c34.Left.map THeader.c), .ro 8 (c34.Got.map THeader.c), .int .i64 c34.Last.MTU, .int .i64 c34.Last.Options, .bool c34.Last.Init, .bool c34.Last.More, .bool c34.Last.Master, .int .u32 c34.Last.Seq, .ro 8 (c34.Last.Heads.map THeader.c)]), (1, .box (TDesc.c d1)), (2, .box [.int .u32 0, .int .u32 0, .int .i64 0, .bool false, .int .u32 0, .nils, .nils, .int .i64 0, .int .i64 0, .bool false, .bool false, .bool false, .int .u32 0, .nils]), (3, .box [.int .i64 0, .int .i64 0, .bool false, .bool false, .bool false, .int .u32 0, .nils]), (4, .box [.int .i64 0, .int .i64 0, .bool false, .bool false, .bool false, .int .u32 0, .nils]), (5, .box (TSession.c c53a)), (6, .box (TDesc.c c53b))]) (next' := 7) rfl rfl rfl rfl rfl ?_
      refine GX.done ?_
      refine WK.seq ?_
      refine WK.drawn mixed ?_
      refine RD.q (.agg (TSession.c c53a)) ?_
      refine RD.q (.agg (TDesc.c c53b)) ?_
      refine RD.step0 (heap' := [(0, .box [.int .u32 c34.Own, .int .u32 c34.Peer, .int .i64 c34.Phase, .bool c34.Leads, .int .u32 (IntKind.u32.wrap (c34.Seq + 1)), .ro 8 (c34.Left.map THeader.c), .ro 8 (c34.Got.map THeader.c), .int .i64 c34.Last.MTU, .int .i64 c34.Last.Options, .bool c34.Last.Init, .bool c34.Last.More, .bool c34.Last.Master, .int .u32 c34.Last.Seq, .ro 8 (c34.Last.Heads.map THeader.c)]), (1, .box (TDesc.c d1)), (2, .box (TSession.c c53a)), (3, .box [.int .i64 0, .int .i64 0, .bool false, .bool false, .bool false, .int .u32 0, .nils]), (4, .box [.int .i64 0, .int .i64 0, .bool false, .bool false, .bool false, .int .u32 0, .nils]), (5, .box (TSession.c c53a)), (6, .box (TDesc.c c53b))]) (next' := 7) rfl rfl rfl rfl rfl ?_
      refine RD.step0 (heap' := [(0, .box [.int .u32 c34.Own, .int .u32 c34.Peer, .int .i64 c34.Phase, .bool c34.Leads, .int .u32 (IntKind.u32.wrap (c34.Seq + 1)), .ro 8 (c34.Left.map THeader.c), .ro 8 (c34.Got.map THeader.c), .int .i64 c34.Last.MTU, .int .i64 c34.Last.Options, .bool c34.Last.Init, .bool c34.Last.More, .bool c34.Last.Master, .int .u32 c34.Last.Seq, .ro 8 (c34.Last.Heads.map THeader.c)]), (1, .box (TDesc.c d1)), (2, .box (TSession.c c53a)), (3, .box (TDesc.c c53b)), (4, .box [.int .i64 0, .int .i64 0, .bool false, .bool false, .bool false, .int .u32 0, .nils]), (5, .box (TSession.c c53a)), (6, .box (TDesc.c c53b))]) (next' := 7) rfl rfl rfl rfl rfl ?_
      iterate 2 refine RD.m rfl ?_
      refine RD.done rfl ?_
      refine WK.ret ?_
      obtain rfl := Option.some.inj hR
      exact RetQ.fr [] (.inr rfl) rfl rfl rfl rfl
    ·rw [hb4]; first | replace hR := cond_t hb4 hR | (try simp only [hb4, bb] at hR)
     iterate 3 refine GX.skip rfl rfl ?_
     refine GX.q (.bool false) ?_
     refine GX.done ?_
     refine WK.condF rfl ?_
     refine WK.skip ?_
     refine WK.sr mixed ?_
     refine GX.q (.ptr 0 4) ?_
     refine GX.q (.int .u32 c34.Seq) ?_
     refine GX.q (.int .u32 (IntKind.u32.wrap (c34.Seq + 1))) ?_
     refine GX.q (.ptr 0 4) ?_
     refine GX.step0 (heap' := [(0, .box [.int .u32 c34.Own, .int .u32 c34.Peer, .int .i64 c34.Phase, .bool c34.Leads, .int .u32 (IntKind.u32.wrap (c34.Seq + 1)), .ro 8 (c34.Left.map THeader.c), .ro 8 (c34.Got.map THeader.c), .int .i64 c34.Last.MTU, .int .i64 c34.Last.Options, .bool c34.Last.Init, .bool c34.Last.More, .bool c34.Last.Master, .int .u32 c34.Last.Seq, .ro 8 (c34.Last.Heads.map THeader.c)]), (1, .box (TDesc.c d1)), (2, .box [.int .u32 0, .int .u32 0, .int .i64 0, .bool false, .int .u32 0, .nils, .nils, .int .i64 0, .int .i64 0, .bool false, .bool false, .bool false, .int .u32 0, .nils]), (3, .box [.int .i64 0, .int .i64 0, .bool false, .bool false, .bool false, .int .u32 0, .nils]), (4, .box [.int .i64 0, .int .i64 0, .bool false, .bool false, .bool false, .int .u32 0, .nils])]) (next' := 5) rfl rfl rfl rfl rfl ?_
     refine GX.done ?_
     refine WK.sr mixed ?_
     refine GX.q (.agg [.int .u32 c34.Own, .int .u32 c34.Peer, .int .i64 c34.Phase, .bool c34.Leads, .int .u32 (IntKind.u32.wrap (c34.Seq + 1)), .ro 8 (c34.Left.map THeader.c), .ro 8 (c34.Got.map THeader.c), .int .i64 c34.Last.MTU, .int .i64 c34.Last.Options, .bool c34.Last.Init, .bool c34.Last.More, .bool c34.Last.Master, .int .u32 c34.Last.Seq, .ro 8 (c34.Last.Heads.map THeader.c)]) ?_
     generalize hc53 : F29_crossroadsref17_page (⟨c34.Own, c34.Peer, c34.Phase, c34.Leads, IntKind.u32.wrap (c34.Seq + 1), c34.Left, c34.Got, c34.Last⟩ : TSession) = c53 at hR
     rcases c53 with _ | c53
     ·try dsimp only at hR
      cases hR
     try dsimp only at hR
     obtain ⟨c53a, c53b⟩ := c53; try dsimp only at hR
     refine GX.callp (r := .tup [.agg [.int .u32 c53a.Own, .int .u32 c53a.Peer, .int .i64 c53a.Phase, .bool c53a.Leads, .int .u32 c53a.Seq, .ro 8 (c53a.Left.map THeader.c), .ro 8 (c53a.Got.map THeader.c), .int .i64 c53a.Last.MTU, .int .i64 c53a.Last.Options, .bool c53a.Last.Init, .bool c53a.Last.More, .bool c53a.Last.Master, .int .u32 c53a.Last.Seq, .ro 8 (c53a.Last.Heads.map THeader.c)], .agg [.int .i64 c53b.MTU, .int .i64 c53b.Options, .bool c53b.Init, .bool c53b.More, .bool c53b.Master, .int .u32 c53b.Seq, .ro 8 (c53b.Heads.map THeader.c)]]) rfl rfl rfl (f29_ok (⟨c34.Own, c34.Peer, c34.Phase, c34.Leads, IntKind.u32.wrap (c34.Seq + 1), c34.Left, c34.Got, c34.Last⟩ : TSession) _ hc53) rfl rfl ?_
     refine GX.m rfl ?_
     refine GX.q (.agg [.int .u32 c53a.Own, .int .u32 c53a.Peer, .int .i64 c53a.Phase, .bool c53a.Leads, .int .u32 c53a.Seq, .ro 8 (c53a.Left.map THeader.c), .ro 8 (c53a.Got.map THeader.c), .int .i64 c53a.Last.MTU, .int .i64 c53a.Last.Options, .bool c53a.Last.Init, .bool c53a.Last.More, .bool c53a.Last.Master, .int .u32 c53a.Last.Seq, .ro 8 (c53a.Last.Heads.map THeader.c)]) ?_
     refine GX.q (.agg [.int .i64 c53b.MTU, .int .i64 c53b.Options, .bool c53b.Init, .bool c53b.More, .bool c53b.Master, .int .u32 c53b.Seq, .ro 8 (c53b.Heads.map THeader.c)]) ?_
     refine GX.step (v' := .ptr 5 0) (heap' := [(0, .box [.int .u32 c34.Own, .int .u32 c34.Peer, .int .i64 c34.Phase, .bool c34.Leads, .int .u32 (IntKind.u32.wrap (c34.Seq + 1)), .ro 8 (c34.Left.map THeader.c), .ro 8 (c34.Got.map THeader.c), .int .i64 c34.Last.MTU, .int .i64 c34.Last.Options, .bool c34.Last.Init, .bool c34.Last.More, .bool c34.Last.Master, .int .u32 c34.Last.Seq, .ro 8 (c34.Last.Heads.map THeader.c)]), (1, .box (TDesc.c d1)), (2, .box [.int .u32 0, .int .u32 0, .int .i64 0, .bool false, .int .u32 0, .nils, .nils, .int .i64 0, .int .i64 0, .bool false, .bool false, .bool false, .int .u32 0, .nils]), (3, .box [.int .i64 0, .int .i64 0, .bool false, .bool false, .bool false, .int .u32 0, .nils]), (4, .box [.int .i64 0, .int .i64 0, .bool false, .bool false, .bool false, .int .u32 0, .nils]), (5, .box [.int .u32 0, .int .u32 0, .int .i64 0, .bool false, .int .u32 0, .nils, .nils, .int .i64 0, .int .i64 0, .bool false, .bool false, .bool false, .int .u32 0, .nils])]) (next' := 6) rfl rfl rfl rfl rfl rfl rfl ?_
     refine GX.step (v' := .ptr 6 0) (heap' := [(0, .box [.int .u32 c34.Own, .int .u32 c34.Peer, .int .i64 c34.Phase, .bool c34.Leads, .int .u32 (IntKind.u32.wrap (c34.Seq + 1)), .ro 8 (c34.Left.map THeader.c), .ro 8 (c34.Got.map THeader.c), .int .i64 c34.Last.MTU, .int .i64 c34.Last.Options, .bool c34.Last.Init, .bool c34.Last.More, .bool c34.Last.Master, .int .u32 c34.Last.Seq, .ro 8 (c34.Last.Heads.map THeader.c)]), (1, .box (TDesc.c d1)), (2, .box [.int .u32 0, .int .u32 0, .int .i64 0, .bool false, .int .u32 0, .nils, .nils, .int .i64 0, .int .i64 0, .bool false, .bool false, .bool false, .int .u32 0, .nils]), (3, .box [.int .i64 0, .int .i64 0, .bool false, .bool false, .bool false, .int .u32 0, .nils]), (4, .box [.int .i64 0, .int .i64 0, .bool false, .bool false, .bool false, .int .u32 0, .nils]), (5, .box [.int .u32 0, .int .u32 0, .int .i64 0, .bool false, .int .u32 0, .nils, .nils, .int .i64 0, .int .i64 0, .bool false, .bool false, .bool false, .int .u32 0, .nils]), (6, .box [.int .i64 0, .int .i64 0, .bool false, .bool false, .bool false, .int .u32 0, .nils])]) (next' := 7) rfl rfl rfl rfl rfl rfl rfl ?_
     refine GX.step0 (heap' := [(0, .box [.int .u32 c34.Own, .int .u32 c34.Peer, .int .i64 c34.Phase, .bool c34.Leads, .int .u32 (IntKind.u32.wrap (c34.Seq + 1)), .ro 8 (c34.Left.map THeader.c), .ro 8 (c34.Got.map THeader.c), .int .i64 c34.Last.MTU, .int .i64 c34.Last.Options, .bool c34.Last.Init, .bool c34.Last.More, .bool c34.Last.Master, .int .u32 c34.Last.Seq, .ro 8 (c34.Last.Heads.map THeader.c)]), (1, .box (TDesc.c d1)), (2, .box [.int .u32 0, .int .u32 0, .int .i64 0, .bool false, .int .u32 0, .nils, .nils, .int .i64 0, .int .i64 0, .bool false, .bool false, .bool false, .int .u32 0, .nils]), (3, .box [.int .i64 0, .int .i64 0, .bool false, .bool false, .bool false, .int .u32 0, .nils]), (4, .box [.int .i64 0, .int .i64 0, .bool false, .bool false, .bool false, .int .u32 0, .nils]), (5, .box (TSession.c c53a)), (6, .box [.int .i64 0, .int .i64 0, .bool false, .bool false, .bool false, .int .u32 0, .nils])]) (next' := 7) rfl rfl rfl rfl rfl ?_
     refine GX.step0 (heap' := [(0, .box [.int .u32 c34.Own, .int .u32 c34.Peer, .int .i64 c34.Phase, .bool c34.Leads, .int .u32 (IntKind.u32.wrap (c34.Seq + 1)), .ro 8 (c34.Left.map THeader.c), .ro 8 (c34.Got.map THeader.c), .int .i64 c34.Last.MTU, .int .i64 c34.Last.Options, .bool c34.Last.Init, .bool c34.Last.More, .bool c34.Last.Master, .int .u32 c34.Last.Seq, .ro 8 (c34.Last.Heads.map THeader.c)]), (1, .box (TDesc.c d1)), (2, .box [.int .u32 0, .int .u32 0, .int .i64 0, .bool false, .int .u32 0, .nils, .nils, .int .i64 0, .int .i64 0, .bool false, .bool false, .bool false, .int .u32 0, .nils]), (3, .box [.int .i64 0, .int .i64 0, .bool false, .bool false, .bool false, .int .u32 0, .nils]), (4, .box [.int .i64 0, .int .i64 0, .bool false, .bool false, .bool false, .int .u32 0, .nils]), (5, .box (TSession.c c53a)), (6, .box (TDesc.c c53b))]) (next' := 7) rfl rfl rfl rfl rfl ?_
     refine GX.done ?_
     refine WK.seq ?_
     refine WK.drawn mixed ?_
     refine RD.q (.agg (TSession.c c53a)) ?_
     refine RD.q (.agg (TDesc.c c53b)) ?_
     refine RD.step0 (heap' := [(0, .box [.int .u32 c34.Own, .int .u32 c34.Peer, .int .i64 c34.Phase, .bool c34.Leads, .int .u32 (IntKind.u32.wrap (c34.Seq + 1)), .ro 8 (c34.Left.map THeader.c), .ro 8 (c34.Got.map THeader.c), .int .i64 c34.Last.MTU, .int .i64 c34.Last.Options, .bool c34.Last.Init, .bool c34.Last.More, .bool c34.Last.Master, .int .u32 c34.Last.Seq, .ro 8 (c34.Last.Heads.map THeader.c)]), (1, .box (TDesc.c d1)), (2, .box (TSession.c c53a)), (3, .box [.int .i64 0, .int .i64 0, .bool false, .bool false, .bool false, .int .u32 0, .nils]), (4, .box [.int .i64 0, .int .i64 0, .bool false, .bool false, .bool false, .int .u32 0, .nils]), (5, .box (TSession.c c53a)), (6, .box (TDesc.c c53b))]) (next' := 7) rfl rfl rfl rfl rfl ?_
     refine RD.step0 (heap' := [(0, .box [.int .u32 c34.Own, .int .u32 c34.Peer, .int .i64 c34.Phase, .bool c34.Leads, .int .u32 (IntKind.u32.wrap (c34.Seq + 1)), .ro 8 (c34.Left.map THeader.c), .ro 8 (c34.Got.map THeader.c), .int .i64 c34.Last.MTU, .int .i64 c34.Last.Options, .bool c34.Last.Init, .bool c34.Last.More, .bool c34.Last.Master, .int .u32 c34.Last.Seq, .ro 8 (c34.Last.Heads.map THeader.c)]), (1, .box (TDesc.c d1)), (2, .box (TSession.c c53a)), (3, .box (TDesc.c c53b)), (4, .box [.int .i64 0, .int .i64 0, .bool false, .bool false, .bool false, .int .u32 0, .nils]), (5, .box (TSession.c c53a)), (6, .box (TDesc.c c53b))]) (next' := 7) rfl rfl rfl rfl rfl ?_
     iterate 2 refine RD.m rfl ?_
     refine RD.done rfl ?_
     refine WK.ret ?_
     obtain rfl := Option.some.inj hR
     exact RetQ.fr [] (.inr rfl) rfl rfl rfl rfl
   ·rw [hb3]; first | replace hR := cond_t hb3 hR | (try simp only [hb3, bb] at hR)
    refine WK.condT rfl ?_
    refine WK.seq ?_
    refine WK.drawn mixed ?_
    refine RD.q (.agg (TSession.c s0)) ?_
    refine RD.q (.agg [.int .i64 0, .int .i64 0, .bool false, .bool false, .bool false, .int .u32 0, .nils]) ?_
    iterate 2 refine RD.step0 (heap' := [(0, .box (TSession.c s0)), (1, .box (TDesc.c d1)), (2, .box (TSession.c s0)), (3, .box [.int .i64 0, .int .i64 0, .bool false, .bool false, .bool false, .int .u32 0, .nils]), (4, .box [.int .i64 0, .int .i64 0, .bool false, .bool false, .bool false, .int .u32 0, .nils])]) (next' := 5) rfl rfl rfl rfl rfl ?_
    iterate 2 refine RD.m rfl ?_
    refine RD.done rfl ?_
    refine WK.ret ?_
    obtain rfl := Option.some.inj hR
    exact RetQ.frw [] (.inr rfl) rfl rfl rfl (.tup (.cons .refl (.cons (.agg (.cons .refl (.cons .refl (.cons .refl (.cons .refl (.cons .refl (.cons .refl (.cons .nil .refl)))))))) .refl)))
 ·rw [hb1]; first | replace hR := cond_t hb1 hR | (try simp only [hb1, bb] at hR)
  refine WK.condT rfl ?_
  refine WK.seq ?_
  refine WK.drawn mixed ?_
  refine RD.q (.agg (TSession.c s0)) ?_
  refine RD.q (.agg [.int .i64 0, .int .i64 0, .bool false, .bool false, .bool false, .int .u32 0, .nils]) ?_
  iterate 2 refine RD.step0 (heap' := [(0, .box (TSession.c s0)), (1, .box (TDesc.c d1)), (2, .box (TSession.c s0)), (3, .box [.int .i64 0, .int .i64 0, .bool false, .bool false, .bool false, .int .u32 0, .nils]), (4, .box [.int .i64 0, .int .i64 0, .bool false, .bool false, .bool false, .int .u32 0, .nils])]) (next' := 5) rfl rfl rfl rfl rfl ?_
  iterate 2 refine RD.m rfl ?_
  refine RD.done rfl ?_
  refine WK.ret ?_
  obtain rfl := Option.some.inj hR
  exact RetQ.frw [] (.inr rfl) rfl rfl rfl (.tup (.cons .refl (.cons (.agg (.cons .refl (.cons .refl (.cons .refl (.cons .refl (.cons .refl (.cons .refl (.cons .nil .refl)))))))) .refl)))

theorem f31_ok (s0 : TSession) (d1 : TDesc) (R : TSession × TDesc × Bool × Int) (hR : F31_crossroadsref17_follow s0 d1 = some R) : FnOk Try.prog 31 [.agg (TSession.c s0), .agg (TDesc.c d1)] [] 0 (.tup [.agg (TSession.c R.1), .agg (TDesc.c R.2.1), .bool R.2.2.1, .int .i64 R.2.2.2]) [] 0 := by
 refine FnOk.wk i31 rfl rfl ?_
 unfold F31_crossroadsref17_follow at hR
 try dsimp only at hR
 change WK _ _ _ [ac31] _ ⟨[(0, .agg (TSession.c s0)), (1, .agg (TDesc.c d1))], [], 0⟩
 unfold ac31
 refine WK.sr mixed ?_
 refine GX.step (v' := .ptr 0 0) (heap' := [(0, .box (TSession.c s0))]) (next' := 1) rfl rfl rfl rfl rfl rfl rfl ?_
 refine GX.step (v' := .ptr 1 0) (heap' := [(0, .box (TSession.c s0)), (1, .box (TDesc.c d1))]) (next' := 2) rfl rfl rfl rfl rfl rfl rfl ?_
 refine GX.step (v' := .ptr 2 0) (heap' := [(0, .box (TSession.c s0)), (1, .box (TDesc.c d1)), (2, .box [.int .u32 0, .int .u32 0, .int .i64 0, .bool false, .int .u32 0, .nils, .nils, .int .i64 0, .int .i64 0, .bool false, .bool false, .bool false, .int .u32 0, .nils])]) (next' := 3) rfl rfl rfl rfl rfl rfl rfl ?_
 refine GX.step (v' := .ptr 3 0) (heap' := [(0, .box (TSession.c s0)), (1, .box (TDesc.c d1)), (2, .box [.int .u32 0, .int .u32 0, .int .i64 0, .bool false, .int .u32 0, .nils, .nils, .int .i64 0, .int .i64 0, .bool false, .bool false, .bool false, .int .u32 0, .nils]), (3, .box [.int .i64 0, .int .i64 0, .bool false, .bool false, .bool false, .int .u32 0, .nils])]) (next' := 4) rfl rfl rfl rfl rfl rfl rfl ?_
 iterate 2 refine GX.m rfl ?_
 refine GX.done ?_
 refine WK.seq ?_
 refine WK.sr mixed ?_
 refine GX.q (.ptr 1 5) ?_
 refine GX.q (.int .u32 d1.Seq) ?_
 refine GX.q (.ptr 0 4) ?_
 refine GX.q (.int .u32 s0.Seq) ?_
 refine GX.q (.bool (decide (d1.Seq = s0.Seq))) ?_
 refine GX.done ?_
 rcases bool_two (decide (d1.Seq = s0.Seq)) with hb1 | hb1
 ·rw [hb1]; first | replace hR := cond_f hb1 hR | (try simp only [hb1, bb] at hR)
  refine WK.condF rfl ?_
  refine WK.skip ?_
  refine WK.seq ?_
  refine WK.sr mixed ?_
  refine GX.q (.ptr 1 5) ?_
  refine GX.q (.int .u32 d1.Seq) ?_
  refine GX.q (.ptr 0 4) ?_
  refine GX.q (.int .u32 s0.Seq) ?_
  refine GX.q (.int .u32 (IntKind.u32.wrap (s0.Seq + 1))) ?_
  refine GX.q (.bool (!decide (d1.Seq = IntKind.u32.wrap (s0.Seq + 1)))) ?_
  refine GX.m rfl ?_
  rcases bool_two (decide (d1.Seq = IntKind.u32.wrap (s0.Seq + 1))) with hb2 | hb2
  ·rw [hb2]; first | replace hR := cond_f hb2 hR | (try simp only [hb2, bb] at hR)
   iterate 3 refine GX.skip rfl rfl ?_
   refine GX.q (.bool true) ?_
   refine GX.done ?_
   refine WK.condT rfl ?_
   refine WK.sr mixed ?_
   refine GX.q (.agg (TSession.c s0)) ?_
   refine GX.q (.agg [.int .i64 0, .int .i64 0, .bool false, .bool false, .bool false, .int .u32 0, .nils]) ?_
   iterate 2 refine GX.step0 (heap' := [(0, .box (TSession.c s0)), (1, .box (TDesc.c d1)), (2, .box (TSession.c s0)), (3, .box [.int .i64 0, .int .i64 0, .bool false, .bool false, .bool false, .int .u32 0, .nils])]) (next' := 4) rfl rfl rfl rfl rfl ?_
   iterate 2 refine GX.m rfl ?_
   refine GX.done ?_
   refine WK.ret ?_
   obtain rfl := Option.some.inj hR
   exact RetQ.frw [] (.inr rfl) rfl rfl rfl (.tup (.cons .refl (.cons (.agg (.cons .refl (.cons .refl (.cons .refl (.cons .refl (.cons .refl (.cons .refl (.cons .nil .refl)))))))) .refl)))
  ·rw [hb2]; first | replace hR := cond_t hb2 hR | (try simp only [hb2, bb] at hR)
   refine GX.q (.ptr 0 2) ?_
   refine GX.q (.int .i64 s0.Phase) ?_
   iterate 2 refine GX.q (.bool (decide (s0.Phase = 2))) ?_
   refine GX.done ?_
   rcases bool_two (decide (s0.Phase = 2)) with hb3 | hb3
   ·rw [hb3]; first | replace hR := cond_f hb3 hR | (try simp only [hb3, bb] at hR)
    refine WK.condF rfl ?_
    refine WK.skip ?_
    refine WK.sr mixed ?_
    refine GX.q (.agg (TSession.c s0)) ?_
    refine GX.q (.agg (TDesc.c d1)) ?_
    generalize hc33 : F48_crossroadsref17_got s0 d1 = c33 at hR
    rcases c33 with _ | c33
    ·try dsimp only at hR
     cases hR
    try dsimp only at hR
    try dsimp only at hR
    refine GX.callp (r := .agg [.int .u32 c33.Own, .int .u32 c33.Peer, .int .i64 c33.Phase, .bool c33.Leads, .int .u32 c33.Seq, .ro 8 (c33.Left.map THeader.c), .ro 8 (c33.Got.map THeader.c), .int .i64 c33.Last.MTU, .int .i64 c33.Last.Options, .bool c33.Last.Init, .bool c33.Last.More, .bool c33.Last.Master, .int .u32 c33.Last.Seq, .ro 8 (c33.Last.Heads.map THeader.c)]) rfl rfl rfl (f48_ok s0 d1 _ hc33) rfl rfl ?_
    refine GX.step0 (heap' := [(0, .box (TSession.c c33)), (1, .box (TDesc.c d1)), (2, .box [.int .u32 0, .int .u32 0, .int .i64 0, .bool false, .int .u32 0, .nils, .nils, .int .i64 0, .int .i64 0, .bool false, .bool false, .bool false, .int .u32 0, .nils]), (3, .box [.int .i64 0, .int .i64 0, .bool false, .bool false, .bool false, .int .u32 0, .nils])]) (next' := 4) rfl rfl rfl rfl rfl ?_
    refine GX.done ?_
    refine WK.sr mixed ?_
    refine GX.q (.ptr 1 5) ?_
    refine GX.q (.int .u32 d1.Seq) ?_
    refine GX.q (.ptr 0 4) ?_
    refine GX.step0 (heap' := [(0, .box [.int .u32 c33.Own, .int .u32 c33.Peer, .int .i64 c33.Phase, .bool c33.Leads, .int .u32 d1.Seq, .ro 8 (c33.Left.map THeader.c), .ro 8 (c33.Got.map THeader.c), .int .i64 c33.Last.MTU, .int .i64 c33.Last.Options, .bool c33.Last.Init, .bool c33.Last.More, .bool c33.Last.Master, .int .u32 c33.Last.Seq, .ro 8 (c33.Last.Heads.map THeader.c)]), (1, .box (TDesc.c d1)), (2, .box [.int .u32 0, .int .u32 0, .int .i64 0, .bool false, .int .u32 0, .nils, .nils, .int .i64 0, .int .i64 0, .bool false, .bool false, .bool false, .int .u32 0, .nils]), (3, .box [.int .i64 0, .int .i64 0, .bool false, .bool false, .bool false, .int .u32 0, .nils])]) (next' := 4) rfl rfl rfl rfl rfl ?_
    refine GX.done ?_
    refine WK.sr mixed ?_
    refine GX.q (.agg [.int .u32 c33.Own, .int .u32 c33.Peer, .int .i64 c33.Phase, .bool c33.Leads, .int .u32 d1.Seq, .ro 8 (c33.Left.map THeader.c), .ro 8 (c33.Got.map THeader.c), .int .i64 c33.Last.MTU, .int .i64 c33.Last.Options, .bool c33.Last.Init, .bool c33.Last.More, .bool c33.Last.Master, .int .u32 c33.Last.Seq, .ro 8 (c33.Last.Heads.map THeader.c)]) ?_
    generalize hc39 : F29_crossroadsref17_page (⟨c33.Own, c33.Peer, c33.Phase, c33.Leads, d1.Seq, c33.Left, c33.Got, c33.Last⟩ : TSession) = c39 at hR
    rcases c39 with _ | c39
    ·try dsimp only at hR
     cases hR
    try dsimp only at hR
    obtain ⟨c39a, c39b⟩ := c39; try dsimp only at hR
    refine GX.callp (r := .tup [.agg [.int .u32 c39a.Own, .int .u32 c39a.Peer, .int .i64 c39a.Phase, .bool c39a.Leads, .int .u32 c39a.Seq, .ro 8 (c39a.Left.map THeader.c), .ro 8 (c39a.Got.map THeader.c), .int .i64 c39a.Last.MTU, .int .i64 c39a.Last.Options, .bool c39a.Last.Init, .bool c39a.Last.More, .bool c39a.Last.Master, .int .u32 c39a.Last.Seq, .ro 8 (c39a.Last.Heads.map THeader.c)], .agg [.int .i64 c39b.MTU, .int .i64 c39b.Options, .bool c39b.Init, .bool c39b.More, .bool c39b.Master, .int .u32 c39b.Seq, .ro 8 (c39b.Heads.map THeader.c)]]) rfl rfl rfl (f29_ok (⟨c33.Own, c33.Peer, c33.Phase, c33.Leads, d1.Seq, c33.Left, c33.Got, c33.Last⟩ : TSession) _ hc39) rfl rfl ?_
    refine GX.m rfl ?_
    refine GX.q (.agg [.int .u32 c39a.Own, .int .u32 c39a.Peer, .int .i64 c39a.Phase, .bool c39a.Leads, .int .u32 c39a.Seq, .ro 8 (c39a.Left.map THeader.c), .ro 8 (c39a.Got.map THeader.c), .int .i64 c39a.Last.MTU, .int .i64 c39a.Last.Options, .bool c39a.Last.Init, .bool c39a.Last.More, .bool c39a.Last.Master, .int .u32 c39a.Last.Seq, .ro 8 (c39a.Last.Heads.map THeader.c)]) ?_
    refine GX.q (.agg [.int .i64 c39b.MTU, .int .i64 c39b.Options, .bool c39b.Init, .bool c39b.More, .bool c39b.Master, .int .u32 c39b.Seq, .ro 8 (c39b.Heads.map THeader.c)]) ?_
    refine GX.step (v' := .ptr 4 0) (heap' := [(0, .box [.int .u32 c33.Own, .int .u32 c33.Peer, .int .i64 c33.Phase, .bool c33.Leads, .int .u32 d1.Seq, .ro 8 (c33.Left.map THeader.c), .ro 8 (c33.Got.map THeader.c), .int .i64 c33.Last.MTU, .int .i64 c33.Last.Options, .bool c33.Last.Init, .bool c33.Last.More, .bool c33.Last.Master, .int .u32 c33.Last.Seq, .ro 8 (c33.Last.Heads.map THeader.c)]), (1, .box (TDesc.c d1)), (2, .box [.int .u32 0, .int .u32 0, .int .i64 0, .bool false, .int .u32 0, .nils, .nils, .int .i64 0, .int .i64 0, .bool false, .bool false, .bool false, .int .u32 0, .nils]), (3, .box [.int .i64 0, .int .i64 0, .bool false, .bool false, .bool false, .int .u32 0, .nils]), (4, .box [.int .u32 0, .int .u32 0, .int .i64 0, .bool false, .int .u32 0, .nils, .nils, .int .i64 0, .int .i64 0, .bool false, .bool false, .bool false, .int .u32 0, .nils])]) (next' := 5) rfl rfl rfl rfl rfl rfl rfl ?_
    refine GX.step (v' := .ptr 5 0) (heap' := [(0, .box [.int .u32 c33.Own, .int .u32 c33.Peer, .int .i64 c33.Phase, .bool c33.Leads, .int .u32 d1.Seq, .ro 8 (c33.Left.map THeader.c), .ro 8 (c33.Got.map THeader.c), .int .i64 c33.Last.MTU, .int .i64 c33.Last.Options, .bool c33.Last.Init, .bool c33.Last.More, .bool c33.Last.Master, .int .u32 c33.Last.Seq, .ro 8 (c33.Last.Heads.map THeader.c)]), (1, .box (TDesc.c d1)), (2, .box [.int .u32 0, .int .u32 0, .int .i64 0, .bool false, .int .u32 0, .nils, .nils, .int .i64 0, .int .i64 0, .bool false, .bool false, .bool false, .int .u32 0, .nils]), (3, .box [.int .i64 0, .int .i64 0, .bool false, .bool false, .bool false, .int .u32 0, .nils]), (4, .box [.int .u32 0, .int .u32 0, .int .i64 0, .bool false, .int .u32 0, .nils, .nils, .int .i64 0, .int .i64 0, .bool false, .bool false, .bool false, .int .u32 0, .nils]), (5, .box [.int .i64 0, .int .i64 0, .bool false, .bool false, .bool false, .int .u32 0, .nils])]) (next' := 6) rfl rfl rfl rfl rfl rfl rfl ?_
    refine GX.step0 (heap' := [(0, .box [.int .u32 c33.Own, .int .u32 c33.Peer, .int .i64 c33.Phase, .bool c33.Leads, .int .u32 d1.Seq, .ro 8 (c33.Left.map THeader.c), .ro 8 (c33.Got.map THeader.c), .int .i64 c33.Last.MTU, .int .i64 c33.Last.Options, .bool c33.Last.Init, .bool c33.Last.More, .bool c33.Last.Master, .int .u32 c33.Last.Seq, .ro 8 (c33.Last.Heads.map THeader.c)]), (1, .box (TDesc.c d1)), (2, .box [.int .u32 0, .int .u32 0, .int .i64 0, .bool false, .int .u32 0, .nils, .nils, .int .i64 0, .int .i64 0, .bool false, .bool false, .bool false, .int .u32 0, .nils]), (3, .box [.int .i64 0, .int .i64 0, .bool false, .bool false, .bool false, .int .u32 0, .nils]), (4, .box (TSession.c c39a)), (5, .box [.int .i64 0, .int .i64 0, .bool false, .bool false, .bool false, .int .u32 0, .nils])]) (next' := 6) rfl rfl rfl rfl rfl ?_
    refine GX.step0 (heap' := [(0, .box [.int .u32 c33.Own, .int .u32 c33.Peer, .int .i64 c33.Phase, .bool c33.Leads, .int .u32 d1.Seq, .ro 8 (c33.Left.map THeader.c), .ro 8 (c33.Got.map THeader.c), .int .i64 c33.Last.MTU, .int .i64 c33.Last.Options, .bool c33.Last.Init, .bool c33.Last.More, .bool c33.Last.Master, .int .u32 c33.Last.Seq, .ro 8 (c33.Last.Heads.map THeader.c)]), (1, .box (TDesc.c d1)), (2, .box [.int .u32 0, .int .u32 0, .int .i64 0, .bool false, .int .u32 0, .nils, .nils, .int .i64 0, .int .i64 0, .bool false, .bool false, .bool false, .int .u32 0, .nils]), (3, .box [.int .i64 0, .int .i64 0, .bool false, .bool false, .bool false, .int .u32 0, .nils]), (4, .box (TSession.c c39a)), (5, .box (TDesc.c c39b))]) (next' := 6) rfl rfl rfl rfl rfl ?_
    refine GX.done ?_
    refine WK.seq ?_
    refine WK.sr mixed ?_
    refine GX.q (.ptr 1 3) ?_
    refine GX.q (.bool d1.More) ?_
    refine GX.q (.bool (!d1.More)) ?_
    refine GX.m rfl ?_
    rcases bool_two (d1.More) with hb4 | hb4
    ·rw [hb4]; first | replace hR := cond_f hb4 hR | (try simp only [hb4, bb] at hR)
     refine GX.q (.ptr 5 3) ?_
     refine GX.q (.bool c39b.More) ?_
     iterate 2 refine GX.q (.bool (!c39b.More)) ?_
     refine GX.done ?_
     rcases bool_two (c39b.More) with hb5 | hb5
     ·rw [hb5]; first | replace hR := cond_f hb5 hR | (try simp only [hb5, bb] at hR)
      refine WK.condT rfl ?_
      refine WK.regx mixed ?_
      refine GX.q (.ptr 4 2) ?_
      refine GX.step0 (heap' := [(0, .box [.int .u32 c33.Own, .int .u32 c33.Peer, .int .i64 c33.Phase, .bool c33.Leads, .int .u32 d1.Seq, .ro 8 (c33.Left.map THeader.c), .ro 8 (c33.Got.map THeader.c), .int .i64 c33.Last.MTU, .int .i64 c33.Last.Options, .bool c33.Last.Init, .bool c33.Last.More, .bool c33.Last.Master, .int .u32 c33.Last.Seq, .ro 8 (c33.Last.Heads.map THeader.c)]), (1, .box (TDesc.c d1)), (2, .box [.int .u32 0, .int .u32 0, .int .i64 0, .bool false, .int .u32 0, .nils, .nils, .int .i64 0, .int .i64 0, .bool false, .bool false, .bool false, .int .u32 0, .nils]), (3, .box [.int .i64 0, .int .i64 0, .bool false, .bool false, .bool false, .int .u32 0, .nils]), (4, .box [.int .u32 c39a.Own, .int .u32 c39a.Peer, .int .i64 2, .bool c39a.Leads, .int .u32 c39a.Seq, .ro 8 (c39a.Left.map THeader.c), .ro 8 (c39a.Got.map THeader.c), .int .i64 c39a.Last.MTU, .int .i64 c39a.Last.Options, .bool c39a.Last.Init, .bool c39a.Last.More, .bool c39a.Last.Master, .int .u32 c39a.Last.Seq, .ro 8 (c39a.Last.Heads.map THeader.c)]), (5, .box (TDesc.c c39b))]) (next' := 6) rfl rfl rfl rfl rfl ?_
      refine GX.done ?_
      refine WK.seq ?_
      refine WK.drawn mixed ?_
      refine RD.q (.agg [.int .u32 c39a.Own, .int .u32 c39a.Peer, .int .i64 2, .bool c39a.Leads, .int .u32 c39a.Seq, .ro 8 (c39a.Left.map THeader.c), .ro 8 (c39a.Got.map THeader.c), .int .i64 c39a.Last.MTU, .int .i64 c39a.Last.Options, .bool c39a.Last.Init, .bool c39a.Last.More, .bool c39a.Last.Master, .int .u32 c39a.Last.Seq, .ro 8 (c39a.Last.Heads.map THeader.c)]) ?_
      refine RD.q (.agg (TDesc.c c39b)) ?_
      refine RD.step0 (heap' := [(0, .box [.int .u32 c33.Own, .int .u32 c33.Peer, .int .i64 c33.Phase, .bool c33.Leads, .int .u32 d1.Seq, .ro 8 (c33.Left.map THeader.c), .ro 8 (c33.Got.map THeader.c), .int .i64 c33.Last.MTU, .int .i64 c33.Last.Options, .bool c33.Last.Init, .bool c33.Last.More, .bool c33.Last.Master, .int .u32 c33.Last.Seq, .ro 8 (c33.Last.Heads.map THeader.c)]), (1, .box (TDesc.c d1)), (2, .box [.int .u32 c39a.Own, .int .u32 c39a.Peer, .int .i64 2, .bool c39a.Leads, .int .u32 c39a.Seq, .ro 8 (c39a.Left.map THeader.c), .ro 8 (c39a.Got.map THeader.c), .int .i64 c39a.Last.MTU, .int .i64 c39a.Last.Options, .bool c39a.Last.Init, .bool c39a.Last.More, .bool c39a.Last.Master, .int .u32 c39a.Last.Seq, .ro 8 (c39a.Last.Heads.map THeader.c)]), (3, .box [.int .i64 0, .int .i64 0, .bool false, .bool false, .bool false, .int .u32 0, .nils]), (4, .box [.int .u32 c39a.Own, .int .u32 c39a.Peer, .int .i64 2, .bool c39a.Leads, .int .u32 c39a.Seq, .ro 8 (c39a.Left.map THeader.c), .ro 8 (c39a.Got.map THeader.c), .int .i64 c39a.Last.MTU, .int .i64 c39a.Last.Options, .bool c39a.Last.Init, .bool c39a.Last.More, .bool c39a.Last.Master, .int .u32 c39a.Last.Seq, .ro 8 (c39a.Last.Heads.map THeader.c)]), (5, .box (TDesc.c c39b))]) (next' := 6) rfl rfl rfl rfl rfl ?_
      refine RD.step0 (heap' := [(0, .box [.int .u32 c33.Own, .int .u32 c33.Peer, .int .i64 c33.Phase, .bool c33.Leads, .int .u32 d1.Seq, .ro 8 (c33.Left.map THeader.c), .ro 8 (c33.Got.map THeader.c), .int .i64 c33.Last.MTU, .int .i64 c33.Last.Options, .bool c33.Last.Init, .bool c33.Last.More, .bool c33.Last.Master, .int .u32 c33.Last.Seq, .ro 8 (c33.Last.Heads.map THeader.c)]), (1, .box (TDesc.c d1)), (2, .box [.int .u32 c39a.Own, .int .u32 c39a.Peer, .int .i64 2, .bool c39a.Leads, .int .u32 c39a.Seq, .ro 8 (c39a.Left.map THeader.c), .ro 8 (c39a.Got.map THeader.c), .int .i64 c39a.Last.MTU, .int .i64 c39a.Last.Options, .bool c39a.Last.Init, .bool c39a.Last.More, .bool c39a.Last.Master, .int .u32 c39a.Last.Seq, .ro 8 (c39a.Last.Heads.map THeader.c)]), (3, .box (TDesc.c c39b)), (4, .box [.int .u32 c39a.Own, .int .u32 c39a.Peer, .int .i64 2, .bool c39a.Leads, .int .u32 c39a.Seq, .ro 8 (c39a.Left.map THeader.c), .ro 8 (c39a.Got.map THeader.c), .int .i64 c39a.Last.MTU, .int .i64 c39a.Last.Options, .bool c39a.Last.Init, .bool c39a.Last.More, .bool c39a.Last.Master, .int .u32 c39a.Last.Seq, .ro 8 (c39a.Last.Heads.map THeader.c)]), (5, .box (TDesc.c c39b))]) (next' := 6) rfl rfl rfl rfl rfl ?_
      iterate 2 refine RD.m rfl ?_
      refine RD.done rfl ?_
      refine WK.ret ?_
      obtain rfl := Option.some.inj hR
      exact RetQ.fr [] (.inr rfl) rfl rfl rfl rfl
     ·rw [hb5]; first | replace hR := cond_t hb5 hR | (try simp only [hb5, bb] at hR)
      refine WK.condF rfl ?_
      refine WK.skip ?_
      refine WK.seq ?_
      refine WK.drawn mixed ?_
      refine RD.q (.agg (TSession.c c39a)) ?_
      refine RD.q (.agg (TDesc.c c39b)) ?_
      refine RD.step0 (heap' := [(0, .box [.int .u32 c33.Own, .int .u32 c33.Peer, .int .i64 c33.Phase, .bool c33.Leads, .int .u32 d1.Seq, .ro 8 (c33.Left.map THeader.c), .ro 8 (c33.Got.map THeader.c), .int .i64 c33.Last.MTU, .int .i64 c33.Last.Options, .bool c33.Last.Init, .bool c33.Last.More, .bool c33.Last.Master, .int .u32 c33.Last.Seq, .ro 8 (c33.Last.Heads.map THeader.c)]), (1, .box (TDesc.c d1)), (2, .box (TSession.c c39a)), (3, .box [.int .i64 0, .int .i64 0, .bool false, .bool false, .bool false, .int .u32 0, .nils]), (4, .box (TSession.c c39a)), (5, .box (TDesc.c c39b))]) (next' := 6) rfl rfl rfl rfl rfl ?_
      refine RD.step0 (heap' := [(0, .box [.int .u32 c33.Own, .int .u32 c33.Peer, .int .i64 c33.Phase, .bool c33.Leads, .int .u32 d1.Seq, .ro 8 (c33.Left.map THeader.c), .ro 8 (c33.Got.map THeader.c), .int .i64 c33.Last.MTU, .int .i64 c33.Last.Options, .bool c33.Last.Init, .bool c33.Last.More, .bool c33.Last.Master, .int .u32 c33.Last.Seq, .ro 8 (c33.Last.Heads.map THeader.c)]), (1, .box (TDesc.c d1)), (2, .box (TSession.c c39a)), (3, .box (TDesc.c c39b)), (4, .box (TSession.c c39a)), (5, .box (TDesc.c c39b))]) (next' := 6) rfl rfl rfl rfl rfl ?_
      iterate 2 refine RD.m rfl ?_
      refine RD.done rfl ?_
      refine WK.ret ?_
      obtain rfl := Option.some.inj hR
      exact RetQ.fr [] (.inr rfl) rfl rfl rfl rfl
    ·rw [hb4]; first | replace hR := cond_t hb4 hR | (try simp only [hb4, bb] at hR)
     iterate 3 refine GX.skip rfl rfl ?_
     refine GX.q (.bool false) ?_
     refine GX.done ?_
     refine WK.condF rfl ?_
     refine WK.skip ?_
     refine WK.seq ?_
     refine WK.drawn mixed ?_
     refine RD.q (.agg (TSession.c c39a)) ?_
     refine RD.q (.agg (TDesc.c c39b)) ?_
     refine RD.step0 (heap' := [(0, .box [.int .u32 c33.Own, .int .u32 c33.Peer, .int .i64 c33.Phase, .bool c33.Leads, .int .u32 d1.Seq, .ro 8 (c33.Left.map THeader.c), .ro 8 (c33.Got.map THeader.c), .int .i64 c33.Last.MTU, .int .i64 c33.Last.Options, .bool c33.Last.Init, .bool c33.Last.More, .bool c33.Last.Master, .int .u32 c33.Last.Seq, .ro 8 (c33.Last.Heads.map THeader.c)]), (1, .box (TDesc.c d1)), (2, .box (TSession.c c39a)), (3, .box [.int .i64 0, .int .i64 0, .bool false, .bool false, .bool false, .int .u32 0, .nils]), (4, .box (TSession.c c39a)), (5, .box (TDesc.c c39b))]) (next' := 6) rfl rfl rfl rfl rfl ?_
     refine RD.step0 (heap' := [(0, .box [.int .u32 c33.Own, .int .u32 c33.Peer, .int .i64 c33.Phase, .bool c33.Leads, .int .u32 d1.Seq, .ro 8 (c33.Left.map THeader.c), .ro 8 (c33.Got.map THeader.c), .int .i64 c33.Last.MTU, .int .i64 c33.Last.Options, .bool c33.Last.Init, .bool c33.Last.More, .bool c33.Last.Master, .int .u32 c33.Last.Seq, .ro 8 (c33.Last.Heads.map THeader.c)]), (1, .box (TDesc.c d1)), (2, .box (TSession.c c39a)), (3, .box (TDesc.c c39b)), (4, .box (TSession.c c39a)), (5, .box (TDesc.c c39b))]) (next' := 6) rfl rfl rfl rfl rfl ?_
     iterate 2 refine RD.m rfl ?_
     refine RD.done rfl ?_
     refine WK.ret ?_
     obtain rfl := Option.some.inj hR
     exact RetQ.fr [] (.inr rfl) rfl rfl rfl rfl
   ·rw [hb3]; first | replace hR := cond_t hb3 hR | (try simp only [hb3, bb] at hR)
    refine WK.condT rfl ?_
    refine WK.sr mixed ?_
    refine GX.q (.agg (TSession.c s0)) ?_
    refine GX.q (.agg [.int .i64 0, .int .i64 0, .bool false, .bool false, .bool false, .int .u32 0, .nils]) ?_
    iterate 2 refine GX.step0 (heap' := [(0, .box (TSession.c s0)), (1, .box (TDesc.c d1)), (2, .box (TSession.c s0)), (3, .box [.int .i64 0, .int .i64 0, .bool false, .bool false, .bool false, .int .u32 0, .nils])]) (next' := 4) rfl rfl rfl rfl rfl ?_
    iterate 2 refine GX.m rfl ?_
    refine GX.done ?_
    refine WK.ret ?_
    obtain rfl := Option.some.inj hR
    exact RetQ.frw [] (.inr rfl) rfl rfl rfl (.tup (.cons .refl (.cons (.agg (.cons .refl (.cons .refl (.cons .refl (.cons .refl (.cons .refl (.cons .refl (.cons .nil .refl)))))))) .refl)))
 ·rw [hb1]; first | replace hR := cond_t hb1 hR | (try simp only [hb1, bb] at hR)
  refine WK.condT rfl ?_
  refine WK.seq ?_
  refine WK.drawn mixed ?_
  refine RD.q (.agg (TSession.c s0)) ?_
  refine RD.q (.ptr 0 7) ?_
  refine RD.q (.agg [.int .i64 s0.Last.MTU, .int .i64 s0.Last.Options, .bool s0.Last.Init, .bool s0.Last.More, .bool s0.Last.Master, .int .u32 s0.Last.Seq, .ro 8 (s0.Last.Heads.map THeader.c)]) ?_
  refine RD.step0 (heap' := [(0, .box (TSession.c s0)), (1, .box (TDesc.c d1)), (2, .box (TSession.c s0)), (3, .box [.int .i64 0, .int .i64 0, .bool false, .bool false, .bool false, .int .u32 0, .nils])]) (next' := 4) rfl rfl rfl rfl rfl ?_
  refine RD.step0 (heap' := [(0, .box (TSession.c s0)), (1, .box (TDesc.c d1)), (2, .box (TSession.c s0)), (3, .box (TDesc.c s0.Last))]) (next' := 4) rfl rfl rfl rfl rfl ?_
  iterate 2 refine RD.m rfl ?_
  refine RD.done rfl ?_
  refine WK.ret ?_
  obtain rfl := Option.some.inj hR
  exact RetQ.fr [] (.inr rfl) rfl rfl rfl rfl

theorem f16_ok (s0 : TSession) (d1 : TDesc) (R : TSession × TDesc × Bool × Int) (hR : F16_crossroadsref17_Hear s0 d1 = some R) : FnOk Try.prog 16 [.agg (TSession.c s0), .agg (TDesc.c d1)] [] 0 (.tup [.agg (TSession.c R.1), .agg (TDesc.c R.2.1), .bool R.2.2.1, .int .i64 R.2.2.2]) [] 0 := by
 refine FnOk.wk i16 rfl rfl ?_
 unfold F16_crossroadsref17_Hear at hR
 try dsimp only at hR
 change WK _ _ _ [ac16] _ ⟨[(0, .agg (TSession.c s0)), (1, .agg (TDesc.c d1))], [], 0⟩
 unfold ac16
 refine WK.sr mixed ?_
 refine GX.step (v' := .ptr 0 0) (heap' := [(0, .box (TSession.c s0))]) (next' := 1) rfl rfl rfl rfl rfl rfl rfl ?_
 refine GX.step (v' := .ptr 1 0) (heap' := [(0, .box (TSession.c s0)), (1, .box (TDesc.c d1))]) (next' := 2) rfl rfl rfl rfl rfl rfl rfl ?_
 refine GX.step (v' := .ptr 2 0) (heap' := [(0, .box (TSession.c s0)), (1, .box (TDesc.c d1)), (2, .box [.int .u32 0, .int .u32 0, .int .i64 0, .bool false, .int .u32 0, .nils, .nils, .int .i64 0, .int .i64 0, .bool false, .bool false, .bool false, .int .u32 0, .nils])]) (next' := 3) rfl rfl rfl rfl rfl rfl rfl ?_
 refine GX.step (v' := .ptr 3 0) (heap' := [(0, .box (TSession.c s0)), (1, .box (TDesc.c d1)), (2, .box [.int .u32 0, .int .u32 0, .int .i64 0, .bool false, .int .u32 0, .nils, .nils, .int .i64 0, .int .i64 0, .bool false, .bool false, .bool false, .int .u32 0, .nils]), (3, .box [.int .i64 0, .int .i64 0, .bool false, .bool false, .bool false, .int .u32 0, .nils])]) (next' := 4) rfl rfl rfl rfl rfl rfl rfl ?_
 iterate 2 refine GX.m rfl ?_
 refine GX.done ?_
 refine WK.sr mixed ?_
 refine GX.q (.agg [.int .i64 0, .int .i64 0, .bool false, .bool false, .bool false, .int .u32 0, .nils]) ?_
 refine GX.step (v' := .ptr 4 0) (heap' := [(0, .box (TSession.c s0)), (1, .box (TDesc.c d1)), (2, .box [.int .u32 0, .int .u32 0, .int .i64 0, .bool false, .int .u32 0, .nils, .nils, .int .i64 0, .int .i64 0, .bool false, .bool false, .bool false, .int .u32 0, .nils]), (3, .box [.int .i64 0, .int .i64 0, .bool false, .bool false, .bool false, .int .u32 0, .nils]), (4, .box [.int .i64 0, .int .i64 0, .bool false, .bool false, .bool false, .int .u32 0, .nils])]) (next' := 5) rfl rfl rfl rfl rfl rfl rfl ?_
 refine GX.step0 (heap' := [(0, .box (TSession.c s0)), (1, .box (TDesc.c d1)), (2, .box [.int .u32 0, .int .u32 0, .int .i64 0, .bool false, .int .u32 0, .nils, .nils, .int .i64 0, .int .i64 0, .bool false, .bool false, .bool false, .int .u32 0, .nils]), (3, .box [.int .i64 0, .int .i64 0, .bool false, .bool false, .bool false, .int .u32 0, .nils]), (4, .box [.int .i64 0, .int .i64 0, .bool false, .bool false, .bool false, .int .u32 0, .nils])]) (next' := 5) rfl rfl rfl rfl rfl ?_
 refine GX.done ?_
 refine WK.seq ?_
 refine WK.sr mixed ?_
 refine GX.q (.ptr 0 2) ?_
 refine GX.q (.int .i64 s0.Phase) ?_
 refine GX.q (.bool (decide (s0.Phase = 0))) ?_
 refine GX.done ?_
 rcases bool_two (decide (s0.Phase = 0)) with hb1 | hb1
 ·rw [hb1]; first | replace hR := cond_f hb1 hR | (try simp only [hb1, bb] at hR)
  refine WK.condF rfl ?_
  refine WK.skip ?_
  refine WK.seq ?_
  refine WK.sr mixed ?_
  refine GX.q (.ptr 1 2) ?_
  refine GX.q (.bool d1.Init) ?_
  refine GX.m rfl ?_
  rcases bool_two (d1.Init) with hb2 | hb2
  ·rw [hb2]; first | replace hR := cond_f hb2 hR | (try simp only [hb2, bb] at hR)
   refine GX.q (.ptr 1 4) ?_
   refine GX.q (.bool d1.Master) ?_
   refine GX.q (.ptr 0 3) ?_
   refine GX.q (.bool s0.Leads) ?_
   iterate 2 refine GX.q (.bool (d1.Master == s0.Leads)) ?_
   refine GX.done ?_
   rcases bool_two ((d1.Master == s0.Leads)) with hb3 | hb3
   ·rw [hb3]; try simp only [hb3, bb] at hR
    refine WK.condF rfl ?_
    refine WK.skip ?_
    refine WK.seq ?_
    refine WK.sr mixed ?_
    refine GX.q (.ptr 0 3) ?_
    refine GX.q (.bool s0.Leads) ?_
    refine GX.done ?_
    rcases bool_two (s0.Leads) with hb4 | hb4
    ·rw [hb4]; first | replace hR := cond_f hb4 hR | (try simp only [hb4, bb] at hR)
     refine WK.condF rfl ?_
     refine WK.skip ?_
     refine WK.sr mixed ?_
     refine GX.q (.agg (TSession.c s0)) ?_
     refine GX.q (.agg (TDesc.c d1)) ?_
     generalize hc104 : F31_crossroadsref17_follow s0 d1 = c104 at hR
     rcases c104 with _ | c104
     ·try dsimp only at hR
      cases hR
     try dsimp only at hR
     obtain ⟨c104a, c104b, c104c, c104d⟩ := c104; try dsimp only at hR
     refine GX.callp (r := .tup [.agg [.int .u32 c104a.Own, .int .u32 c104a.Peer, .int .i64 c104a.Phase, .bool c104a.Leads, .int .u32 c104a.Seq, .ro 8 (c104a.Left.map THeader.c), .ro 8 (c104a.Got.map THeader.c), .int .i64 c104a.Last.MTU, .int .i64 c104a.Last.Options, .bool c104a.Last.Init, .bool c104a.Last.More, .bool c104a.Last.Master, .int .u32 c104a.Last.Seq, .ro 8 (c104a.Last.Heads.map THeader.c)], .agg [.int .i64 c104b.MTU, .int .i64 c104b.Options, .bool c104b.Init, .bool c104b.More, .bool c104b.Master, .int .u32 c104b.Seq, .ro 8 (c104b.Heads.map THeader.c)], .bool c104c, .int .i64 c104d]) rfl rfl rfl (f31_ok s0 d1 _ hc104) rfl rfl ?_
     refine GX.q (.agg [.int .u32 c104a.Own, .int .u32 c104a.Peer, .int .i64 c104a.Phase, .bool c104a.Leads, .int .u32 c104a.Seq, .ro 8 (c104a.Left.map THeader.c), .ro 8 (c104a.Got.map THeader.c), .int .i64 c104a.Last.MTU, .int .i64 c104a.Last.Options, .bool c104a.Last.Init, .bool c104a.Last.More, .bool c104a.Last.Master, .int .u32 c104a.Last.Seq, .ro 8 (c104a.Last.Heads.map THeader.c)]) ?_
     refine GX.q (.agg [.int .i64 c104b.MTU, .int .i64 c104b.Options, .bool c104b.Init, .bool c104b.More, .bool c104b.Master, .int .u32 c104b.Seq, .ro 8 (c104b.Heads.map THeader.c)]) ?_
     refine GX.q (.bool c104c) ?_
     refine GX.q (.int .i64 c104d) ?_
     refine GX.step0 (heap' := [(0, .box (TSession.c s0)), (1, .box (TDesc.c d1)), (2, .box (TSession.c c104a)), (3, .box [.int .i64 0, .int .i64 0, .bool false, .bool false, .bool false, .int .u32 0, .nils]), (4, .box [.int .i64 0, .int .i64 0, .bool false, .bool false, .bool false, .int .u32 0, .nils])]) (next' := 5) rfl rfl rfl rfl rfl ?_
     refine GX.step0 (heap' := [(0, .box (TSession.c s0)), (1, .box (TDesc.c d1)), (2, .box (TSession.c c104a)), (3, .box (TDesc.c c104b)), (4, .box [.int .i64 0, .int .i64 0, .bool false, .bool false, .bool false, .int .u32 0, .nils])]) (next' := 5) rfl rfl rfl rfl rfl ?_
     iterate 2 refine GX.m rfl ?_
     refine GX.done ?_
     refine WK.ret ?_
     obtain rfl := Option.some.inj hR
     exact RetQ.fr [] (.inr rfl) rfl rfl rfl rfl
    ·rw [hb4]; first | replace hR := cond_t hb4 hR | (try simp only [hb4, bb] at hR)
     refine WK.condT rfl ?_
     refine WK.sr mixed ?_
     refine GX.q (.agg (TSession.c s0)) ?_
     refine GX.q (.agg (TDesc.c d1)) ?_
     generalize hc97 : F30_crossroadsref17_lead s0 d1 = c97 at hR
     rcases c97 with _ | c97
     ·try dsimp only at hR
      cases hR
     try dsimp only at hR
     obtain ⟨c97a, c97b, c97c, c97d⟩ := c97; try dsimp only at hR
     refine GX.callp (r := .tup [.agg [.int .u32 c97a.Own, .int .u32 c97a.Peer, .int .i64 c97a.Phase, .bool c97a.Leads, .int .u32 c97a.Seq, .ro 8 (c97a.Left.map THeader.c), .ro 8 (c97a.Got.map THeader.c), .int .i64 c97a.Last.MTU, .int .i64 c97a.Last.Options, .bool c97a.Last.Init, .bool c97a.Last.More, .bool c97a.Last.Master, .int .u32 c97a.Last.Seq, .ro 8 (c97a.Last.Heads.map THeader.c)], .agg [.int .i64 c97b.MTU, .int .i64 c97b.Options, .bool c97b.Init, .bool c97b.More, .bool c97b.Master, .int .u32 c97b.Seq, .ro 8 (c97b.Heads.map THeader.c)], .bool c97c, .int .i64 c97d]) rfl rfl rfl (f30_ok s0 d1 _ hc97) rfl rfl ?_
     refine GX.q (.agg [.int .u32 c97a.Own, .int .u32 c97a.Peer, .int .i64 c97a.Phase, .bool c97a.Leads, .int .u32 c97a.Seq, .ro 8 (c97a.Left.map THeader.c), .ro 8 (c97a.Got.map THeader.c), .int .i64 c97a.Last.MTU, .int .i64 c97a.Last.Options, .bool c97a.Last.Init, .bool c97a.Last.More, .bool c97a.Last.Master, .int .u32 c97a.Last.Seq, .ro 8 (c97a.Last.Heads.map THeader.c)]) ?_
     refine GX.q (.agg [.int .i64 c97b.MTU, .int .i64 c97b.Options, .bool c97b.Init, .bool c97b.More, .bool c97b.Master, .int .u32 c97b.Seq, .ro 8 (c97b.Heads.map THeader.c)]) ?_
     refine GX.q (.bool c97c) ?_
     refine GX.q (.int .i64 c97d) ?_
     refine GX.step0 (heap' := [(0, .box (TSession.c s0)), (1, .box (TDesc.c d1)), (2, .box (TSession.c c97a)), (3, .box [.int .i64 0, .int .i64 0, .bool false, .bool false, .bool false, .int .u32 0, .nils]), (4, .box [.int .i64 0, .int .i64 0, .bool false, .bool false, .bool false, .int .u32 0, .nils])]) (next' := 5) rfl rfl rfl rfl rfl ?_
     refine GX.step0 (heap' := [(0, .box (TSession.c s0)), (1, .box (TDesc.c d1)), (2, .box (TSession.c c97a)), (3, .box (TDesc.c c97b)), (4, .box [.int .i64 0, .int .i64 0, .bool false, .bool false, .bool false, .int .u32 0, .nils])]) (next' := 5) rfl rfl rfl rfl rfl ?_
     iterate 2 refine GX.m rfl ?_
     refine GX.done ?_
     refine WK.ret ?_
     obtain rfl := Option.some.inj hR
     exact RetQ.fr [] (.inr rfl) rfl rfl rfl rfl
   ·rw [hb3]; try simp only [hb3, bb] at hR
    refine WK.condT rfl ?_
    refine WK.seq ?_
    refine WK.drawn mixed ?_
    refine RD.q (.agg (TSession.c s0)) ?_
    refine RD.q (.agg [.int .i64 0, .int .i64 0, .bool false, .bool false, .bool false, .int .u32 0, .nils]) ?_
    iterate 2 refine RD.step0 (heap' := [(0, .box (TSession.c s0)), (1, .box (TDesc.c d1)), (2, .box (TSession.c s0)), (3, .box [.int .i64 0, .int .i64 0, .bool false, .bool false, .bool false, .int .u32 0, .nils]), (4, .box [.int .i64 0, .int .i64 0, .bool false, .bool false, .bool false, .int .u32 0, .nils])]) (next' := 5) rfl rfl rfl rfl rfl ?_
    iterate 2 refine RD.m rfl ?_
    refine RD.done rfl ?_
    refine WK.ret ?_
    obtain rfl := Option.some.inj hR
    exact RetQ.frw [] (.inr rfl) rfl rfl rfl (.tup (.cons .refl (.cons (.agg (.cons .refl (.cons .refl (.cons .refl (.cons .refl (.cons .refl (.cons .refl (.cons .nil .refl)))))))) .refl)))
  ·rw [hb2]; first | replace hR := cond_t hb2 hR | (try simp only [hb2, bb] at hR)
   iterate 5 refine GX.skip rfl rfl ?_
   refine GX.q (.bool true) ?_
   refine GX.done ?_
   refine WK.condT rfl ?_
   refine WK.seq ?_
   refine WK.drawn mixed ?_
   refine RD.q (.agg (TSession.c s0)) ?_
   refine RD.q (.agg [.int .i64 0, .int .i64 0, .bool false, .bool false, .bool false, .int .u32 0, .nils]) ?_
   iterate 2 refine RD.step0 (heap' := [(0, .box (TSession.c s0)), (1, .box (TDesc.c d1)), (2, .box (TSession.c s0)), (3, .box [.int .i64 0, .int .i64 0, .bool false, .bool false, .bool false, .int .u32 0, .nils]), (4, .box [.int .i64 0, .int .i64 0, .bool false, .bool false, .bool false, .int .u32 0, .nils])]) (next' := 5) rfl rfl rfl rfl rfl ?_
   iterate 2 refine RD.m rfl ?_
   refine RD.done rfl ?_
   refine WK.ret ?_
   obtain rfl := Option.some.inj hR
   exact RetQ.frw [] (.inr rfl) rfl rfl rfl (.tup (.cons .refl (.cons (.agg (.cons .refl (.cons .refl (.cons .refl (.cons .refl (.cons .refl (.cons .refl (.cons .nil .refl)))))))) .refl)))
 ·rw [hb1]; first | replace hR := cond_t hb1 hR | (try simp only [hb1, bb] at hR)
  refine WK.condT rfl ?_
  refine WK.seq ?_
  refine WK.sr mixed ?_
  refine GX.q (.ptr 1 2) ?_
  refine GX.q (.bool d1.Init) ?_
  refine GX.m rfl ?_
  rcases bool_two (d1.Init) with hb5 | hb5
  ·rw [hb5]; first | replace hR := cond_f hb5 hR | (try simp only [hb5, bb] at hR)
   iterate 2 refine GX.skip rfl rfl ?_
   refine GX.q (.bool false) ?_
   refine GX.m rfl ?_
   iterate 2 refine GX.skip rfl rfl ?_
   refine GX.q (.bool false) ?_
   refine GX.m rfl ?_
   iterate 4 refine GX.skip rfl rfl ?_
   refine GX.q (.bool false) ?_
   refine GX.m rfl ?_
   iterate 5 refine GX.skip rfl rfl ?_
   refine GX.q (.bool false) ?_
   refine GX.done ?_
   refine WK.condF rfl ?_
   refine WK.skip ?_
   refine WK.seq ?_
   refine WK.sr mixed ?_
   refine GX.q (.ptr 1 2) ?_
   refine GX.pure (v' := .bool false) rfl rfl rfl rfl (congrArg PVal.bool hb5) ?_
   refine GX.q (.bool true) ?_
   refine GX.m rfl ?_
   refine GX.q (.ptr 1 4) ?_
   refine GX.q (.bool d1.Master) ?_
   iterate 2 refine GX.q (.bool (!d1.Master)) ?_
   refine GX.m rfl ?_
   rcases bool_two (d1.Master) with hb6 | hb6
   ·rw [hb6]; first | replace hR := cond_f hb6 hR | (try simp only [hb6, bb] at hR)
    refine GX.q (.ptr 1 5) ?_
    refine GX.q (.int .u32 d1.Seq) ?_
    refine GX.q (.ptr 0 4) ?_
    refine GX.q (.int .u32 s0.Seq) ?_
    iterate 2 refine GX.q (.bool (decide (d1.Seq = s0.Seq))) ?_
    refine GX.m rfl ?_
    rcases bool_two (decide (d1.Seq = s0.Seq)) with hb7 | hb7
    ·rw [hb7]; first | replace hR := cond_f hb7 hR | (try simp only [hb7, bb] at hR)
     iterate 5 refine GX.skip rfl rfl ?_
     refine GX.q (.bool false) ?_
     refine GX.done ?_
     refine WK.condF rfl ?_
     refine WK.skip ?_
     refine WK.seq ?_
     refine WK.drawn mixed ?_
     refine RD.q (.agg (TSession.c s0)) ?_
     refine RD.q (.agg [.int .i64 0, .int .i64 0, .bool false, .bool false, .bool false, .int .u32 0, .nils]) ?_
     iterate 2 refine RD.step0 (heap' := [(0, .box (TSession.c s0)), (1, .box (TDesc.c d1)), (2, .box (TSession.c s0)), (3, .box [.int .i64 0, .int .i64 0, .bool false, .bool false, .bool false, .int .u32 0, .nils]), (4, .box [.int .i64 0, .int .i64 0, .bool false, .bool false, .bool false, .int .u32 0, .nils])]) (next' := 5) rfl rfl rfl rfl rfl ?_
     iterate 2 refine RD.m rfl ?_
     refine RD.done rfl ?_
     refine WK.ret ?_
     obtain rfl := Option.some.inj hR
     exact RetQ.frw [] (.inr rfl) rfl rfl rfl (.tup (.cons .refl (.cons (.agg (.cons .refl (.cons .refl (.cons .refl (.cons .refl (.cons .refl (.cons .refl (.cons .nil .refl)))))))) .refl)))
    ·rw [hb7]; first | replace hR := cond_t hb7 hR | (try simp only [hb7, bb] at hR)
     refine GX.q (.ptr 0 1) ?_
     refine GX.q (.int .u32 s0.Peer) ?_
     refine GX.q (.ptr 0 0) ?_
     refine GX.q (.int .u32 s0.Own) ?_
     iterate 2 refine GX.q (.bool (decide (s0.Peer < s0.Own))) ?_
     refine GX.done ?_
     rcases bool_two (decide (s0.Peer < s0.Own)) with hb8 | hb8
     ·rw [hb8]; first | replace hR := cond_f hb8 hR | (try simp only [hb8, bb] at hR)
      refine WK.condF rfl ?_
      refine WK.skip ?_
      refine WK.seq ?_
      refine WK.drawn mixed ?_
      refine RD.q (.agg (TSession.c s0)) ?_
      refine RD.q (.agg [.int .i64 0, .int .i64 0, .bool false, .bool false, .bool false, .int .u32 0, .nils]) ?_
      iterate 2 refine RD.step0 (heap' := [(0, .box (TSession.c s0)), (1, .box (TDesc.c d1)), (2, .box (TSession.c s0)), (3, .box [.int .i64 0, .int .i64 0, .bool false, .bool false, .bool false, .int .u32 0, .nils]), (4, .box [.int .i64 0, .int .i64 0, .bool false, .bool false, .bool false, .int .u32 0, .nils])]) (next' := 5) rfl rfl rfl rfl rfl ?_
      iterate 2 refine RD.m rfl ?_
      refine RD.done rfl ?_
      refine WK.ret ?_
      obtain rfl := Option.some.inj hR
      exact RetQ.frw [] (.inr rfl) rfl rfl rfl (.tup (.cons .refl (.cons (.agg (.cons .refl (.cons .refl (.cons .refl (.cons .refl (.cons .refl (.cons .refl (.cons .nil .refl)))))))) .refl)))
     ·rw [hb8]; first | replace hR := cond_t hb8 hR | (try simp only [hb8, bb] at hR)
      refine WK.condT rfl ?_
      refine WK.sr mixed ?_
      refine GX.q (.ptr 0 2) ?_
      refine GX.step0 (heap' := [(0, .box [.int .u32 s0.Own, .int .u32 s0.Peer, .int .i64 1, .bool s0.Leads, .int .u32 s0.Seq, .ro 8 (s0.Left.map THeader.c), .ro 8 (s0.Got.map THeader.c), .int .i64 s0.Last.MTU, .int .i64 s0.Last.Options, .bool s0.Last.Init, .bool s0.Last.More, .bool s0.Last.Master, .int .u32 s0.Last.Seq, .ro 8 (s0.Last.Heads.map THeader.c)]), (1, .box (TDesc.c d1)), (2, .box [.int .u32 0, .int .u32 0, .int .i64 0, .bool false, .int .u32 0, .nils, .nils, .int .i64 0, .int .i64 0, .bool false, .bool false, .bool false, .int .u32 0, .nils]), (3, .box [.int .i64 0, .int .i64 0, .bool false, .bool false, .bool false, .int .u32 0, .nils]), (4, .box [.int .i64 0, .int .i64 0, .bool false, .bool false, .bool false, .int .u32 0, .nils])]) (next' := 5) rfl rfl rfl rfl rfl ?_
      refine GX.done ?_
      refine WK.sr mixed ?_
      refine GX.q (.ptr 0 3) ?_
      refine GX.step0 (heap' := [(0, .box [.int .u32 s0.Own, .int .u32 s0.Peer, .int .i64 1, .bool true, .int .u32 s0.Seq, .ro 8 (s0.Left.map THeader.c), .ro 8 (s0.Got.map THeader.c), .int .i64 s0.Last.MTU, .int .i64 s0.Last.Options, .bool s0.Last.Init, .bool s0.Last.More, .bool s0.Last.Master, .int .u32 s0.Last.Seq, .ro 8 (s0.Last.Heads.map THeader.c)]), (1, .box (TDesc.c d1)), (2, .box [.int .u32 0, .int .u32 0, .int .i64 0, .bool false, .int .u32 0, .nils, .nils, .int .i64 0, .int .i64 0, .bool false, .bool false, .bool false, .int .u32 0, .nils]), (3, .box [.int .i64 0, .int .i64 0, .bool false, .bool false, .bool false, .int .u32 0, .nils]), (4, .box [.int .i64 0, .int .i64 0, .bool false, .bool false, .bool false, .int .u32 0, .nils])]) (next' := 5) rfl rfl rfl rfl rfl ?_
      refine GX.done ?_
      refine WK.sr mixed ?_
      refine GX.q (.agg [.int .u32 s0.Own, .int .u32 s0.Peer, .int .i64 1, .bool true, .int .u32 s0.Seq, .ro 8 (s0.Left.map THeader.c), .ro 8 (s0.Got.map THeader.c), .int .i64 s0.Last.MTU, .int .i64 s0.Last.Options, .bool s0.Last.Init, .bool s0.Last.More, .bool s0.Last.Master, .int .u32 s0.Last.Seq, .ro 8 (s0.Last.Heads.map THeader.c)]) ?_
      refine GX.q (.agg (TDesc.c d1)) ?_
      generalize hc75 : F30_crossroadsref17_lead (⟨s0.Own, s0.Peer, 1, true, s0.Seq, s0.Left, s0.Got, s0.Last⟩ : TSession) d1 = c75 at hR
      rcases c75 with _ | c75
      ·try dsimp only at hR
       cases hR
      try dsimp only at hR
      obtain ⟨c75a, c75b, c75c, c75d⟩ := c75; try dsimp only at hR
      refine GX.callp (r := .tup [.agg [.int .u32 c75a.Own, .int .u32 c75a.Peer, .int .i64 c75a.Phase, .bool c75a.Leads, .int .u32 c75a.Seq, .ro 8 (c75a.Left.map THeader.c), .ro 8 (c75a.Got.map THeader.c), .int .i64 c75a.Last.MTU, .int .i64 c75a.Last.Options, .bool c75a.Last.Init, .bool c75a.Last.More, .bool c75a.Last.Master, .int .u32 c75a.Last.Seq, .ro 8 (c75a.Last.Heads.map THeader.c)], .agg [.int .i64 c75b.MTU, .int .i64 c75b.Options, .bool c75b.Init, .bool c75b.More, .bool c75b.Master, .int .u32 c75b.Seq, .ro 8 (c75b.Heads.map THeader.c)], .bool c75c, .int .i64 c75d]) rfl rfl rfl (f30_ok (⟨s0.Own, s0.Peer, 1, true, s0.Seq, s0.Left, s0.Got, s0.Last⟩ : TSession) d1 _ hc75) rfl rfl ?_
      refine GX.q (.agg [.int .u32 c75a.Own, .int .u32 c75a.Peer, .int .i64 c75a.Phase, .bool c75a.Leads, .int .u32 c75a.Seq, .ro 8 (c75a.Left.map THeader.c), .ro 8 (c75a.Got.map THeader.c), .int .i64 c75a.Last.MTU, .int .i64 c75a.Last.Options, .bool c75a.Last.Init, .bool c75a.Last.More, .bool c75a.Last.Master, .int .u32 c75a.Last.Seq, .ro 8 (c75a.Last.Heads.map THeader.c)]) ?_
      refine GX.q (.agg [.int .i64 c75b.MTU, .int .i64 c75b.Options, .bool c75b.Init, .bool c75b.More, .bool c75b.Master, .int .u32 c75b.Seq, .ro 8 (c75b.Heads.map THeader.c)]) ?_
      refine GX.q (.bool c75c) ?_
      refine GX.q (.int .i64 c75d) ?_
      refine GX.step0 (heap' := [(0, .box [.int .u32 s0.Own, .int .u32 s0.Peer, .int .i64 1, .bool true, .int .u32 s0.Seq, .ro 8 (s0.Left.map THeader.c), .ro 8 (s0.Got.map THeader.c), .int .i64 s0.Last.MTU, .int .i64 s0.Last.Options, .bool s0.Last.Init, .bool s0.Last.More, .bool s0.Last.Master, .int .u32 s0.Last.Seq, .ro 8 (s0.Last.Heads.map THeader.c)]), (1, .box (TDesc.c d1)), (2, .box (TSession.c c75a)), (3, .box [.int .i64 0, .int .i64 0, .bool false, .bool false, .bool false, .int .u32 0, .nils]), (4, .box [.int .i64 0, .int .i64 0, .bool false, .bool false, .bool false, .int .u32 0, .nils])]) (next' := 5) rfl rfl rfl rfl rfl ?_
      refine GX.step0 (heap' := [(0, .box [.int .u32 s0.Own, .int .u32 s0.Peer, .int .i64 1, .bool true, .int .u32 s0.Seq, .ro 8 (s0.Left.map THeader.c), .ro 8 (s0.Got.map THeader.c), .int .i64 s0.Last.MTU, .int .i64 s0.Last.Options, .bool s0.Last.Init, .bool s0.Last.More, .bool s0.Last.Master, .int .u32 s0.Last.Seq, .ro 8 (s0.Last.Heads.map THeader.c)]), (1, .box (TDesc.c d1)), (2, .box (TSession.c c75a)), (3, .box (TDesc.c c75b)), (4, .box [.int .i64 0, .int .i64 0, .bool false, .bool false, .bool false, .int .u32 0, .nils])]) (next' := 5) rfl rfl rfl rfl rfl ?_
      iterate 2 refine GX.m rfl ?_
      refine GX.done ?_
      refine WK.ret ?_
      obtain rfl := Option.some.inj hR
      exact RetQ.fr [] (.inr rfl) rfl rfl rfl rfl
   ·rw [hb6]; first | replace hR := cond_t hb6 hR | (try simp only [hb6, bb] at hR)
    iterate 5 refine GX.skip rfl rfl ?_
    refine GX.q (.bool false) ?_
    refine GX.m rfl ?_
    iterate 5 refine GX.skip rfl rfl ?_
    refine GX.q (.bool false) ?_
    refine GX.done ?_
    refine WK.condF rfl ?_
    refine WK.skip ?_
    refine WK.seq ?_
    refine WK.drawn mixed ?_
    refine RD.q (.agg (TSession.c s0)) ?_
    refine RD.q (.agg [.int .i64 0, .int .i64 0, .bool false, .bool false, .bool false, .int .u32 0, .nils]) ?_
    iterate 2 refine RD.step0 (heap' := [(0, .box (TSession.c s0)), (1, .box (TDesc.c d1)), (2, .box (TSession.c s0)), (3, .box [.int .i64 0, .int .i64 0, .bool false, .bool false, .bool false, .int .u32 0, .nils]), (4, .box [.int .i64 0, .int .i64 0, .bool false, .bool false, .bool false, .int .u32 0, .nils])]) (next' := 5) rfl rfl rfl rfl rfl ?_
    iterate 2 refine RD.m rfl ?_
    refine RD.done rfl ?_
    refine WK.ret ?_
    obtain rfl := Option.some.inj hR
    exact RetQ.frw [] (.inr rfl) rfl rfl rfl (.tup (.cons .refl (.cons (.agg (.cons .refl (.cons .refl (.cons .refl (.cons .refl (.cons .refl (.cons .refl (.cons .nil .refl)))))))) .refl)))
  ·rw [hb5]; first | replace hR := cond_t hb5 hR | (try simp only [hb5, bb] at hR)
   refine GX.q (.ptr 1 3) ?_
   iterate 2 refine GX.q (.bool d1.More) ?_
   refine GX.m rfl ?_
   rcases bool_two (d1.More) with hb9 | hb9
   ·rw [hb9]; first | replace hR := cond_f hb9 hR | (try simp only [hb9, bb] at hR)
    iterate 2 refine GX.skip rfl rfl ?_
    refine GX.q (.bool false) ?_
    refine GX.m rfl ?_
    iterate 4 refine GX.skip rfl rfl ?_
    refine GX.q (.bool false) ?_
    refine GX.m rfl ?_
    iterate 5 refine GX.skip rfl rfl ?_
    refine GX.q (.bool false) ?_
    refine GX.done ?_
    refine WK.condF rfl ?_
    refine WK.skip ?_
    refine WK.seq ?_
    refine WK.sr mixed ?_
    refine GX.q (.ptr 1 2) ?_
    refine GX.pure (v' := .bool true) rfl rfl rfl rfl (congrArg PVal.bool hb5) ?_
    refine GX.q (.bool false) ?_
    refine GX.m rfl ?_
    iterate 3 refine GX.skip rfl rfl ?_
    refine GX.q (.bool false) ?_
    refine GX.m rfl ?_
    iterate 5 refine GX.skip rfl rfl ?_
    refine GX.q (.bool false) ?_
    refine GX.m rfl ?_
    iterate 5 refine GX.skip rfl rfl ?_
    refine GX.q (.bool false) ?_
    refine GX.done ?_
    refine WK.condF rfl ?_
    refine WK.skip ?_
    refine WK.seq ?_
    refine WK.drawn mixed ?_
    refine RD.q (.agg (TSession.c s0)) ?_
    refine RD.q (.agg [.int .i64 0, .int .i64 0, .bool false, .bool false, .bool false, .int .u32 0, .nils]) ?_
    iterate 2 refine RD.step0 (heap' := [(0, .box (TSession.c s0)), (1, .box (TDesc.c d1)), (2, .box (TSession.c s0)), (3, .box [.int .i64 0, .int .i64 0, .bool false, .bool false, .bool false, .int .u32 0, .nils]), (4, .box [.int .i64 0, .int .i64 0, .bool false, .bool false, .bool false, .int .u32 0, .nils])]) (next' := 5) rfl rfl rfl rfl rfl ?_
    iterate 2 refine RD.m rfl ?_
    refine RD.done rfl ?_
    refine WK.ret ?_
    obtain rfl := Option.some.inj hR
    exact RetQ.frw [] (.inr rfl) rfl rfl rfl (.tup (.cons .refl (.cons (.agg (.cons .refl (.cons .refl (.cons .refl (.cons .refl (.cons .refl (.cons .refl (.cons .nil .refl)))))))) .refl)))
   ·rw [hb9]; first | replace hR := cond_t hb9 hR | (try simp only [hb9, bb] at hR)
    refine GX.q (.ptr 1 4) ?_
    iterate 2 refine GX.q (.bool d1.Master) ?_
    refine GX.m rfl ?_
    rcases bool_two (d1.Master) with hb10 | hb10
    ·rw [hb10]; first | replace hR := cond_f hb10 hR | (try simp only [hb10, bb] at hR)
     iterate 4 refine GX.skip rfl rfl ?_
     refine GX.q (.bool false) ?_
     refine GX.m rfl ?_
     iterate 5 refine GX.skip rfl rfl ?_
     refine GX.q (.bool false) ?_
     refine GX.done ?_
     refine WK.condF rfl ?_
     refine WK.skip ?_
     refine WK.seq ?_
     refine WK.sr mixed ?_
     refine GX.q (.ptr 1 2) ?_
     refine GX.pure (v' := .bool true) rfl rfl rfl rfl (congrArg PVal.bool hb5) ?_
     refine GX.q (.bool false) ?_
     refine GX.m rfl ?_
     iterate 3 refine GX.skip rfl rfl ?_
     refine GX.q (.bool false) ?_
     refine GX.m rfl ?_
     iterate 5 refine GX.skip rfl rfl ?_
     refine GX.q (.bool false) ?_
     refine GX.m rfl ?_
     iterate 5 refine GX.skip rfl rfl ?_
     refine GX.q (.bool false) ?_
     refine GX.done ?_
     refine WK.condF rfl ?_
     refine WK.skip ?_
     refine WK.seq ?_
     refine WK.drawn mixed ?_
     refine RD.q (.agg (TSession.c s0)) ?_
     refine RD.q (.agg [.int .i64 0, .int .i64 0, .bool false, .bool false, .bool false, .int .u32 0, .nils]) ?_
     iterate 2 refine RD.step0 (heap' := [(0, .box (TSession.c s0)), (1, .box (TDesc.c d1)), (2, .box (TSession.c s0)), (3, .box [.int .i64 0, .int .i64 0, .bool false, .bool false, .bool false, .int .u32 0, .nils]), (4, .box [.int .i64 0, .int .i64 0, .bool false, .bool false, .bool false, .int .u32 0, .nils])]) (next' := 5) rfl rfl rfl rfl rfl ?_
     iterate 2 refine RD.m rfl ?_
     refine RD.done rfl ?_
     refine WK.ret ?_
     obtain rfl := Option.some.inj hR
     exact RetQ.frw [] (.inr rfl) rfl rfl rfl (.tup (.cons .refl (.cons (.agg (.cons .refl (.cons .refl (.cons .refl (.cons .refl (.cons .refl (.cons .refl (.cons .nil .refl)))))))) .refl)))
    ·rw [hb10]; first | replace hR := cond_t hb10 hR | (try simp only [hb10, bb] at hR)
     refine GX.q (.ptr 1 6) ?_
     refine GX.q (.ro 8 (d1.Heads.map THeader.c)) ?_
     refine GX.pure (v' := .int .i64 (d1.Heads.length : Int)) rfl rfl rfl rfl (len_map _ _) ?_
     iterate 2 refine GX.q (.bool (decide ((d1.Heads.length : Int) = 0))) ?_
     refine GX.m rfl ?_
     rcases bool_two (decide ((d1.Heads.length : Int) = 0)) with hb11 | hb11
     ·rw [hb11]; first | replace hR := cond_f hb11 hR | (try simp only [hb11, bb] at hR)
      iterate 5 refine GX.skip rfl rfl ?_
      refine GX.q (.bool false) ?_
      refine GX.done ?_
      refine WK.condF rfl ?_
      refine WK.skip ?_
      refine WK.seq ?_
      refine WK.sr mixed ?_
      refine GX.q (.ptr 1 2) ?_
      refine GX.pure (v' := .bool true) rfl rfl rfl rfl (congrArg PVal.bool hb5) ?_
      refine GX.q (.bool false) ?_
      refine GX.m rfl ?_
      iterate 3 refine GX.skip rfl rfl ?_
      refine GX.q (.bool false) ?_
      refine GX.m rfl ?_
      iterate 5 refine GX.skip rfl rfl ?_
      refine GX.q (.bool false) ?_
      refine GX.m rfl ?_
      iterate 5 refine GX.skip rfl rfl ?_
      refine GX.q (.bool false) ?_
      refine GX.done ?_
      refine WK.condF rfl ?_
      refine WK.skip ?_
      refine WK.seq ?_
      refine WK.drawn mixed ?_
      refine RD.q (.agg (TSession.c s0)) ?_
      refine RD.q (.agg [.int .i64 0, .int .i64 0, .bool false, .bool false, .bool false, .int .u32 0, .nils]) ?_
      iterate 2 refine RD.step0 (heap' := [(0, .box (TSession.c s0)), (1, .box (TDesc.c d1)), (2, .box (TSession.c s0)), (3, .box [.int .i64 0, .int .i64 0, .bool false, .bool false, .bool false, .int .u32 0, .nils]), (4, .box [.int .i64 0, .int .i64 0, .bool false, .bool false, .bool false, .int .u32 0, .nils])]) (next' := 5) rfl rfl rfl rfl rfl ?_
      iterate 2 refine RD.m rfl ?_
      refine RD.done rfl ?_
      refine WK.ret ?_
      obtain rfl := Option.some.inj hR
      exact RetQ.frw [] (.inr rfl) rfl rfl rfl (.tup (.cons .refl (.cons (.agg (.cons .refl (.cons .refl (.cons .refl (.cons .refl (.cons .refl (.cons .refl (.cons .nil .refl)))))))) .refl)))
     ·rw [hb11]; first | replace hR := cond_t hb11 hR | (try simp only [hb11, bb] at hR)
      refine GX.q (.ptr 0 1) ?_
      refine GX.q (.int .u32 s0.Peer) ?_
      refine GX.q (.ptr 0 0) ?_
      refine GX.q (.int .u32 s0.Own) ?_
      iterate 2 refine GX.q (.bool (decide (s0.Own < s0.Peer))) ?_
      refine GX.done ?_
      rcases bool_two (decide (s0.Own < s0.Peer)) with hb12 | hb12
      ·rw [hb12]; first | replace hR := cond_f hb12 hR | (try simp only [hb12, bb] at hR)
       refine WK.condF rfl ?_
       refine WK.skip ?_
       refine WK.seq ?_
       refine WK.sr mixed ?_
       refine GX.q (.ptr 1 2) ?_
       refine GX.pure (v' := .bool true) rfl rfl rfl rfl (congrArg PVal.bool hb5) ?_
       refine GX.q (.bool false) ?_
       refine GX.m rfl ?_
       iterate 3 refine GX.skip rfl rfl ?_
       refine GX.q (.bool false) ?_
       refine GX.m rfl ?_
       iterate 5 refine GX.skip rfl rfl ?_
       refine GX.q (.bool false) ?_
       refine GX.m rfl ?_
       iterate 5 refine GX.skip rfl rfl ?_
       refine GX.q (.bool false) ?_
       refine GX.done ?_
       refine WK.condF rfl ?_
       refine WK.skip ?_
       refine WK.seq ?_
       refine WK.drawn mixed ?_
       refine RD.q (.agg (TSession.c s0)) ?_
       refine RD.q (.agg [.int .i64 0, .int .i64 0, .bool false, .bool false, .bool false, .int .u32 0, .nils]) ?_
       iterate 2 refine RD.step0 (heap' := [(0, .box (TSession.c s0)), (1, .box (TDesc.c d1)), (2, .box (TSession.c s0)), (3, .box [.int .i64 0, .int .i64 0, .bool false, .bool false, .bool false, .int .u32 0, .nils]), (4, .box [.int .i64 0, .int .i64 0, .bool false, .bool false, .bool false, .int .u32 0, .nils])]) (next' := 5) rfl rfl rfl rfl rfl ?_
       iterate 2 refine RD.m rfl ?_
       refine RD.done rfl ?_
       refine WK.ret ?_
       obtain rfl := Option.some.inj hR
       exact RetQ.frw [] (.inr rfl) rfl rfl rfl (.tup (.cons .refl (.cons (.agg (.cons .refl (.cons .refl (.cons .refl (.cons .refl (.cons .refl (.cons .refl (.cons .nil .refl)))))))) .refl)))
      ·rw [hb12]; first | replace hR := cond_t hb12 hR | (try simp only [hb12, bb] at hR)
       refine WK.condT rfl ?_
       refine WK.sr mixed ?_
       refine GX.q (.ptr 0 2) ?_
       refine GX.step0 (heap' := [(0, .box [.int .u32 s0.Own, .int .u32 s0.Peer, .int .i64 1, .bool s0.Leads, .int .u32 s0.Seq, .ro 8 (s0.Left.map THeader.c), .ro 8 (s0.Got.map THeader.c), .int .i64 s0.Last.MTU, .int .i64 s0.Last.Options, .bool s0.Last.Init, .bool s0.Last.More, .bool s0.Last.Master, .int .u32 s0.Last.Seq, .ro 8 (s0.Last.Heads.map THeader.c)]), (1, .box (TDesc.c d1)), (2, .box [.int .u32 0, .int .u32 0, .int .i64 0, .bool false, .int .u32 0, .nils, .nils, .int .i64 0, .int .i64 0, .bool false, .bool false, .bool false, .int .u32 0, .nils]), (3, .box [.int .i64 0, .int .i64 0, .bool false, .bool false, .bool false, .int .u32 0, .nils]), (4, .box [.int .i64 0, .int .i64 0, .bool false, .bool false, .bool false, .int .u32 0, .nils])]) (next' := 5) rfl rfl rfl rfl rfl ?_
       refine GX.done ?_
       refine WK.sr mixed ?_
       refine GX.q (.ptr 1 5) ?_
       refine GX.q (.int .u32 d1.Seq) ?_
       refine GX.q (.ptr 0 4) ?_
       refine GX.step0 (heap' := [(0, .box [.int .u32 s0.Own, .int .u32 s0.Peer, .int .i64 1, .bool s0.Leads, .int .u32 d1.Seq, .ro 8 (s0.Left.map THeader.c), .ro 8 (s0.Got.map THeader.c), .int .i64 s0.Last.MTU, .int .i64 s0.Last.Options, .bool s0.Last.Init, .bool s0.Last.More, .bool s0.Last.Master, .int .u32 s0.Last.Seq, .ro 8 (s0.Last.Heads.map THeader.c)]), (1, .box (TDesc.c d1)), (2, .box [.int .u32 0, .int .u32 0, .int .i64 0, .bool false, .int .u32 0, .nils, .nils, .int .i64 0, .int .i64 0, .bool false, .bool false, .bool false, .int .u32 0, .nils]), (3, .box [.int .i64 0, .int .i64 0, .bool false, .bool false, .bool false, .int .u32 0, .nils]), (4, .box [.int .i64 0, .int .i64 0, .bool false, .bool false, .bool false, .int .u32 0, .nils])]) (next' := 5) rfl rfl rfl rfl rfl ?_
       refine GX.done ?_
       refine WK.sr mixed ?_
       refine GX.q (.agg [.int .u32 s0.Own, .int .u32 s0.Peer, .int .i64 1, .bool s0.Leads, .int .u32 d1.Seq, .ro 8 (s0.Left.map THeader.c), .ro 8 (s0.Got.map THeader.c), .int .i64 s0.Last.MTU, .int .i64 s0.Last.Options, .bool s0.Last.Init, .bool s0.Last.More, .bool s0.Last.Master, .int .u32 s0.Last.Seq, .ro 8 (s0.Last.Heads.map THeader.c)]) ?_
       generalize hc44 : F29_crossroadsref17_page (⟨s0.Own, s0.Peer, 1, s0.Leads, d1.Seq, s0.Left, s0.Got, s0.Last⟩ : TSession) = c44 at hR
       rcases c44 with _ | c44
       ·try dsimp only at hR
        cases hR
       try dsimp only at hR
       obtain ⟨c44a, c44b⟩ := c44; try dsimp only at hR
       refine GX.callp (r := .tup [.agg [.int .u32 c44a.Own, .int .u32 c44a.Peer, .int .i64 c44a.Phase, .bool c44a.Leads, .int .u32 c44a.Seq, .ro 8 (c44a.Left.map THeader.c), .ro 8 (c44a.Got.map THeader.c), .int .i64 c44a.Last.MTU, .int .i64 c44a.Last.Options, .bool c44a.Last.Init, .bool c44a.Last.More, .bool c44a.Last.Master, .int .u32 c44a.Last.Seq, .ro 8 (c44a.Last.Heads.map THeader.c)], .agg [.int .i64 c44b.MTU, .int .i64 c44b.Options, .bool c44b.Init, .bool c44b.More, .bool c44b.Master, .int .u32 c44b.Seq, .ro 8 (c44b.Heads.map THeader.c)]]) rfl rfl rfl (f29_ok (⟨s0.Own, s0.Peer, 1, s0.Leads, d1.Seq, s0.Left, s0.Got, s0.Last⟩ : TSession) _ hc44) rfl rfl ?_
       refine GX.m rfl ?_
       refine GX.q (.agg [.int .u32 c44a.Own, .int .u32 c44a.Peer, .int .i64 c44a.Phase, .bool c44a.Leads, .int .u32 c44a.Seq, .ro 8 (c44a.Left.map THeader.c), .ro 8 (c44a.Got.map THeader.c), .int .i64 c44a.Last.MTU, .int .i64 c44a.Last.Options, .bool c44a.Last.Init, .bool c44a.Last.More, .bool c44a.Last.Master, .int .u32 c44a.Last.Seq, .ro 8 (c44a.Last.Heads.map THeader.c)]) ?_
       refine GX.q (.agg [.int .i64 c44b.MTU, .int .i64 c44b.Options, .bool c44b.Init, .bool c44b.More, .bool c44b.Master, .int .u32 c44b.Seq, .ro 8 (c44b.Heads.map THeader.c)]) ?_
       refine GX.step (v' := .ptr 5 0) (heap' := [(0, .box [.int .u32 s0.Own, .int .u32 s0.Peer, .int .i64 1, .bool s0.Leads, .int .u32 d1.Seq, .ro 8 (s0.Left.map THeader.c), .ro 8 (s0.Got.map THeader.c), .int .i64 s0.Last.MTU, .int .i64 s0.Last.Options, .bool s0.Last.Init, .bool s0.Last.More, .bool s0.Last.Master, .int .u32 s0.Last.Seq, .ro 8 (s0.Last.Heads.map THeader.c)]), (1, .box (TDesc.c d1)), (2, .box [.int .u32 0, .int .u32 0, .int .i64 0, .bool false, .int .u32 0, .nils, .nils, .int .i64 0, .int .i64 0, .bool false, .bool false, .bool false, .int .u32 0, .nils]), (3, .box [.int .i64 0, .int .i64 0, .bool false, .bool false, .bool false, .int .u32 0, .nils]), (4, .box [.int .i64 0, .int .i64 0, .bool false, .bool false, .bool false, .int .u32 0, .nils]), (5, .box [.int .u32 0, .int .u32 0, .int .i64 0, .bool false, .int .u32 0, .nils, .nils, .int .i64 0, .int .i64 0, .bool false, .bool false, .bool false, .int .u32 0, .nils])]) (next' := 6) rfl rfl rfl rfl rfl rfl rfl ?_
       refine GX.step (v' := .ptr 6 0) (heap' := [(0, .box [.int .u32 s0.Own, .int .u32 s0.Peer, .int .i64 1, .bool s0.Leads, .int .u32 d1.Seq, .ro 8 (s0.Left.map THeader.c), .ro 8 (s0.Got.map THeader.c), .int .i64 s0.Last.MTU, .int .i64 s0.Last.Options, .bool s0.Last.Init, .bool s0.Last.More, .bool s0.Last.Master, .int .u32 s0.Last.Seq, .ro 8 (s0.Last.Heads.map THeader.c)]), (1, .box (TDesc.c d1)), (2, .box [.int .u32 0, .int .u32 0, .int .i64 0, .bool false, .int .u32 0, .nils, .nils, .int .i64 0, .int .i64 0, .bool false, .bool false, .bool false, .int .u32 0, .nils]), (3, .box [.int .i64 0, .int .i64 0, .bool false, .bool false, .bool false, .int .u32 0, .nils]), (4, .box [.int .i64 0, .int .i64 0, .bool false, .bool false, .bool false, .int .u32 0, .nils]), (5, .box [.int .u32 0, .int .u32 0, .int .i64 0, .bool false, .int .u32 0, .nils, .nils, .int .i64 0, .int .i64 0, .bool false, .bool false, .bool false, .int .u32 0, .nils]), (6, .box [.int .i64 0, .int .i64 0, .bool false, .bool false, .bool false, .int .u32 0, .nils])]) (next' := 7) rfl rfl rfl rfl rfl rfl rfl ?_
       refine GX.step0 (heap' := [(0, .box [.int .u32 s0.Own, .int .u32 s0.Peer, .int .i64 1, .bool s0.Leads, .int .u32 d1.Seq, .ro 8 (s0.Left.map THeader.c), .ro 8 (s0.Got.map THeader.c), .int .i64 s0.Last.MTU, .int .i64 s0.Last.Options, .bool s0.Last.Init, .bool s0.Last.More, .bool s0.Last.Master, .int .u32 s0.Last.Seq, .ro 8 (s0.Last.Heads.map THeader.c)]), (1, .box (TDesc.c d1)), (2, .box [.int .u32 0, .int .u32 0, .int .i64 0, .bool false, .int .u32 0, .nils, .nils, .int .i64 0, .int .i64 0, .bool false, .bool false, .bool false, .int .u32 0, .nils]), (3, .box [.int .i64 0, .int .i64 0, .bool false, .bool false, .bool false, .int .u32 0, .nils]), (4, .box [.int .i64 0, .int .i64 0, .bool false, .bool false, .bool false, .int .u32 0, .nils]), (5, .box (TSession.c c44a)), (6, .box [.int .i64 0, .int .i64 0, .bool false, .bool false, .bool false, .int .u32 0, .nils])]) (next' := 7) rfl rfl rfl rfl rfl ?_
       refine GX.step0 (heap' := [(0, .box [.int .u32 s0.Own, .int .u32 s0.Peer, .int .i64 1, .bool s0.Leads, .int .u32 d1.Seq, .ro 8 (s0.Left.map THeader.c), .ro 8 (s0.Got.map THeader.c), .int .i64 s0.Last.MTU, .int .i64 s0.Last.Options, .bool s0.Last.Init, .bool s0.Last.More, .bool s0.Last.Master, .int .u32 s0.Last.Seq, .ro 8 (s0.Last.Heads.map THeader.c)]), (1, .box (TDesc.c d1)), (2, .box [.int .u32 0, .int .u32 0, .int .i64 0, .bool false, .int .u32 0, .nils, .nils, .int .i64 0, .int .i64 0, .bool false, .bool false, .bool false, .int .u32 0, .nils]), (3, .box [.int .i64 0, .int .i64 0, .bool false, .bool false, .bool false, .int .u32 0, .nils]), (4, .box [.int .i64 0, .int .i64 0, .bool false, .bool false, .bool false, .int .u32 0, .nils]), (5, .box (TSession.c c44a)), (6, .box (TDesc.c c44b))]) (next' := 7) rfl rfl rfl rfl rfl ?_
       refine GX.done ?_
       refine WK.seq ?_
       refine WK.drawn mixed ?_
       refine RD.q (.agg (TSession.c c44a)) ?_
       refine RD.q (.agg (TDesc.c c44b)) ?_
       refine RD.step0 (heap' := [(0, .box [.int .u32 s0.Own, .int .u32 s0.Peer, .int .i64 1, .bool s0.Leads, .int .u32 d1.Seq, .ro 8 (s0.Left.map THeader.c), .ro 8 (s0.Got.map THeader.c), .int .i64 s0.Last.MTU, .int .i64 s0.Last.Options, .bool s0.Last.Init, .bool s0.Last.More, .bool s0.Last.Master, .int .u32 s0.Last.Seq, .ro 8 (s0.Last.Heads.map THeader.c)]), (1, .box (TDesc.c d1)), (2, .box (TSession.c c44a)), (3, .box [.int .i64 0, .int .i64 0, .bool false, .bool false, .bool false, .int .u32 0, .nils]), (4, .box [.int .i64 0, .int .i64 0, .bool false, .bool false, .bool false, .int .u32 0, .nils]), (5, .box (TSession.c c44a)), (6, .box (TDesc.c c44b))]) (next' := 7) rfl rfl rfl rfl rfl ?_
       refine RD.step0 (heap' := [(0, .box [.int .u32 s0.Own, .int .u32 s0.Peer, .int .i64 1, .bool s0.Leads, .int .u32 d1.Seq, .ro 8 (s0.Left.map THeader.c), .ro 8 (s0.Got.map THeader.c), .int .i64 s0.Last.MTU, .int .i64 s0.Last.Options, .bool s0.Last.Init, .bool s0.Last.More, .bool s0.Last.Master, .int .u32 s0.Last.Seq, .ro 8 (s0.Last.Heads.map THeader.c)]), (1, .box (TDesc.c d1)), (2, .box (TSession.c c44a)), (3, .box (TDesc.c c44b)), (4, .box [.int .i64 0, .int .i64 0, .bool false, .bool false, .bool false, .int .u32 0, .nils]), (5, .box (TSession.c c44a)), (6, .box (TDesc.c c44b))]) (next' := 7) rfl rfl rfl rfl rfl ?_
       iterate 2 refine RD.m rfl ?_
       refine RD.done rfl ?_
       refine WK.ret ?_
       obtain rfl := Option.some.inj hR
       exact RetQ.fr [] (.inr rfl) rfl rfl rfl rfl

theorem f18_ok (s0 : TSession) (R : TDesc × Bool) (hR : F18_crossroadsref17_Again s0 = R) : FnOk Try.prog 18 [.agg (TSession.c s0)] [] 0 (.tup [.agg (TDesc.c R.1), .bool R.2]) [] 0 := by
 refine FnOk.wk i18 rfl rfl ?_
 unfold F18_crossroadsref17_Again at hR
 change WK _ _ _ [ac18] _ ⟨[(0, .agg (TSession.c s0))], [], 0⟩
 unfold ac18
 refine WK.sr mixed ?_
 refine GX.step (v' := .ptr 0 0) (heap' := [(0, .box (TSession.c s0))]) (next' := 1) rfl rfl rfl rfl rfl rfl rfl ?_
 refine GX.step (v' := .ptr 1 0) (heap' := [(0, .box (TSession.c s0)), (1, .box [.int .i64 0, .int .i64 0, .bool false, .bool false, .bool false, .int .u32 0, .nils])]) (next' := 2) rfl rfl rfl rfl rfl rfl rfl ?_
 refine GX.m rfl ?_
 refine GX.done ?_
 refine WK.seq ?_
 refine WK.sr mixed ?_
 refine GX.q (.ptr 0 2) ?_
 refine GX.q (.int .i64 s0.Phase) ?_
 refine GX.q (.bool (decide (s0.Phase = 0))) ?_
 refine GX.m rfl ?_
 rcases bool_two (decide (s0.Phase = 0)) with hb1 | hb1
 ·rw [hb1]; try simp only [hb1, bb] at hR
  refine GX.q (.ptr 0 3) ?_
  refine GX.q (.bool s0.Leads) ?_
  refine GX.m rfl ?_
  rcases bool_two (s0.Leads) with hb2 | hb2
  ·rw [hb2]; try simp only [hb2, bb] at hR
   iterate 3 refine GX.skip rfl rfl ?_
   iterate 2 refine GX.q (.bool false) ?_
   refine GX.done ?_
   refine WK.condF rfl ?_
   refine WK.skip ?_
   refine WK.sr mixed ?_
   refine GX.q (.agg [.int .i64 0, .int .i64 0, .bool false, .bool false, .bool false, .int .u32 0, .nils]) ?_
   refine GX.step0 (heap' := [(0, .box (TSession.c s0)), (1, .box [.int .i64 0, .int .i64 0, .bool false, .bool false, .bool false, .int .u32 0, .nils])]) (next' := 2) rfl rfl rfl rfl rfl ?_
   refine GX.m rfl ?_
   refine GX.done ?_
   refine WK.ret ?_
   subst hR
   exact RetQ.frw [] (.inr rfl) rfl rfl rfl (.tup (.cons (.agg (.cons .refl (.cons .refl (.cons .refl (.cons .refl (.cons .refl (.cons .refl (.cons .nil .refl)))))))) .refl))
  ·rw [hb2]; try simp only [hb2, bb] at hR
   refine GX.q (.ptr 0 2) ?_
   refine GX.q (.int .i64 s0.Phase) ?_
   iterate 3 refine GX.q (.bool (decide (s0.Phase = 1))) ?_
   refine GX.done ?_
   rcases bool_two (decide (s0.Phase = 1)) with hb3 | hb3
   ·rw [hb3]; try simp only [hb3, bb] at hR
    refine WK.condF rfl ?_
    refine WK.skip ?_
    refine WK.sr mixed ?_
    refine GX.q (.agg [.int .i64 0, .int .i64 0, .bool false, .bool false, .bool false, .int .u32 0, .nils]) ?_
    refine GX.step0 (heap' := [(0, .box (TSession.c s0)), (1, .box [.int .i64 0, .int .i64 0, .bool false, .bool false, .bool false, .int .u32 0, .nils])]) (next' := 2) rfl rfl rfl rfl rfl ?_
    refine GX.m rfl ?_
    refine GX.done ?_
    refine WK.ret ?_
    subst hR
    exact RetQ.frw [] (.inr rfl) rfl rfl rfl (.tup (.cons (.agg (.cons .refl (.cons .refl (.cons .refl (.cons .refl (.cons .refl (.cons .refl (.cons .nil .refl)))))))) .refl))
   ·rw [hb3]; try simp only [hb3, bb] at hR
    refine WK.condT rfl ?_
    refine WK.sr mixed ?_
    refine GX.q (.ptr 0 7) ?_
    refine GX.q (.agg [.int .i64 s0.Last.MTU, .int .i64 s0.Last.Options, .bool s0.Last.Init, .bool s0.Last.More, .bool s0.Last.Master, .int .u32 s0.Last.Seq, .ro 8 (s0.Last.Heads.map THeader.c)]) ?_
    refine GX.step0 (heap' := [(0, .box (TSession.c s0)), (1, .box (TDesc.c s0.Last))]) (next' := 2) rfl rfl rfl rfl rfl ?_
    refine GX.m rfl ?_
    refine GX.done ?_
    refine WK.ret ?_
    subst hR
    exact RetQ.fr [] (.inr rfl) rfl rfl rfl rfl
 ·rw [hb1]; try simp only [hb1, bb] at hR
  iterate 7 refine GX.skip rfl rfl ?_
  refine GX.q (.bool true) ?_
  refine GX.done ?_
  refine WK.condT rfl ?_
  refine WK.sr mixed ?_
  refine GX.q (.ptr 0 7) ?_
  refine GX.q (.agg [.int .i64 s0.Last.MTU, .int .i64 s0.Last.Options, .bool s0.Last.Init, .bool s0.Last.More, .bool s0.Last.Master, .int .u32 s0.Last.Seq, .ro 8 (s0.Last.Heads.map THeader.c)]) ?_
  refine GX.step0 (heap' := [(0, .box (TSession.c s0)), (1, .box (TDesc.c s0.Last))]) (next' := 2) rfl rfl rfl rfl rfl ?_
  refine GX.m rfl ?_
  refine GX.done ?_
  refine WK.ret ?_
  subst hR
  exact RetQ.fr [] (.inr rfl) rfl rfl rfl rfl

end Go.Proofs.Ytbmdpedhobkeeaa.Abs
