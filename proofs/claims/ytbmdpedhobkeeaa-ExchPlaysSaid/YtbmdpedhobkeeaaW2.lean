/- The functions walked: each computes its Lean function (printed by this work's own program gen.py). -/
import Derived.Test.YtbmdpedhobkeeaaSz
import Derived.Test.YtbmdpedhobkeeaaW1
set_option linter.unusedVariables false
set_option linter.unusedSimpArgs false
set_option maxRecDepth 10000
set_option maxHeartbeats 4000000
namespace Go.Proofs.Ytbmdpedhobkeeaa.Abs
open Go

theorem f16_ok (s0 : TSession) (d1 : TDesc) (hp0 : s0.Left.length ≤ 1099511627776) (hp1 : s0.Got.length ≤ 1099511627776) (hp2 : d1.Heads.length ≤ 1099511627776) (R : TSession × TDesc × Bool × Int) (hR : F16_crossroadsref17_Hear s0 d1 = R) : FnOk Try.prog 16 [.agg (TSession.c s0), .agg (TDesc.c d1)] [] 0 (.tup [.agg (TSession.c R.1), .agg (TDesc.c R.2.1), .bool R.2.2.1, .int .i64 R.2.2.2]) [] 0 := by
 refine FnOk.wk i16 rfl rfl ?_
 unfold F16_crossroadsref17_Hear at hR
 change WK _ _ _ [ac16] _ ⟨[(0, .agg (TSession.c s0)), (1, .agg (TDesc.c d1))], [], 0⟩
 unfold ac16
 refine WK.sr mixed ?_
 refine GX.step (v' := .ptr 0 0) (heap' := [(0, .box (TSession.c s0))]) (next' := 1) rfl rfl rfl rfl rfl rfl rfl ?_
 refine GX.step (v' := .ptr 1 0) (heap' := [(0, .box (TSession.c s0)), (1, .box (TDesc.c d1))]) (next' := 2) rfl rfl rfl rfl rfl rfl rfl ?_
 refine GX.step (v' := .ptr 2 0) (heap' := [(0, .box (TSession.c s0)), (1, .box (TDesc.c d1)), (2, .box [.int .u32 0, .int .u32 0, .int .i64 0, .bool false, .int .u32 0, .nils, .nils, .int .i64 0, .int .i64 0, .bool false, .bool false, .bool false, .int .u32 0, .nils])]) (next' := 3) rfl rfl rfl rfl rfl rfl rfl ?_
 refine GX.step (v' := .ptr 3 0) (heap' := [(0, .box (TSession.c s0)), (1, .box (TDesc.c d1)), (2, .box [.int .u32 0, .int .u32 0, .int .i64 0, .bool false, .int .u32 0, .nils, .nils, .int .i64 0, .int .i64 0, .bool false, .bool false, .bool false, .int .u32 0, .nils]), (3, .box [.int .i64 0, .int .i64 0, .bool false, .bool false, .bool false, .int .u32 0, .nils])]) (next' := 4) rfl rfl rfl rfl rfl rfl rfl ?_
 iterate 2 refine GX.m rfl ?_
 refine GX.done ?_
 refine WK.sr mixed ?_
 refine GX.q (.agg [.int .i64 0, .int .i64 0, .bool false, .bool false, .bool false, .int .u32 0, .nils]) ?_
 refine GX.step (v' := .ptr 4 0) (heap' := [(0, .box (TSession.c s0)), (1, .box (TDesc.c d1)), (2, .box [.int .u32 0, .int .u32 0, .int .i64 0, .bool false, .int .u32 0, .nils, .nils, .int .i64 0, .int .i64 0, .bool false, .bool false, .bool false, .int .u32 0, .nils]), (3, .box [.int .i64 0, .int .i64 0, .bool false, .bool false, .bool false, .int .u32 0, .nils]), (4, .box [.int .i64 0, .int .i64 0, .bool false, .bool false, .bool false, .int .u32 0, .nils])]) (next' := 5) rfl rfl rfl rfl rfl rfl rfl ?_
 refine GX.step0 (heap' := [(0, .box (TSession.c s0)), (1, .box (TDesc.c d1)), (2, .box [.int .u32 0, .int .u32 0, .int .i64 0, .bool false, .int .u32 0, .nils, .nils, .int .i64 0, .int .i64 0, .bool false, .bool false, .bool false, .int .u32 0, .nils]), (3, .box [.int .i64 0, .int .i64 0, .bool false, .bool false, .bool false, .int .u32 0, .nils]), (4, .box [.int .i64 0, .int .i64 0, .bool false, .bool false, .bool false, .int .u32 0, .nils])]) (next' := 5) rfl rfl rfl rfl rfl ?_
 refine GX.done ?_
 refine WK.seq ?_
 refine WK.sr mixed ?_
 refine GX.q (.ptr 0 2) ?_
 refine GX.q (.int .i64 s0.Phase) ?_
 refine GX.q (.bool (decide (s0.Phase = 0))) ?_
 refine GX.done ?_
 rcases bool_two (decide (s0.Phase = 0)) with hb1 | hb1
 ·rw [hb1]; try simp only [hb1, bb] at hR
  refine WK.condF rfl ?_
  refine WK.skip ?_
  refine WK.seq ?_
  refine WK.sr mixed ?_
  refine GX.q (.ptr 1 2) ?_
  refine GX.q (.bool d1.Init) ?_
  refine GX.m rfl ?_
  rcases bool_two (d1.Init) with hb2 | hb2
  ·rw [hb2]; try simp only [hb2, bb] at hR
   refine GX.q (.ptr 1 4) ?_
   refine GX.q (.bool d1.Master) ?_
   refine GX.q (.ptr 0 3) ?_
   refine GX.q (.bool s0.Leads) ?_
   iterate 2 refine GX.q (.bool (d1.Master == s0.Leads)) ?_
   refine GX.done ?_
   rcases bool_two ((d1.Master == s0.Leads)) with hb3 | hb3
   ·rw [hb3]; try simp only [hb3, bb] at hR
    refine WK.condF rfl ?_
    refine WK.skip ?_
    refine WK.seq ?_
    refine WK.sr mixed ?_
    refine GX.q (.ptr 0 3) ?_
    refine GX.q (.bool s0.Leads) ?_
    refine GX.done ?_
    rcases bool_two (s0.Leads) with hb4 | hb4
    ·rw [hb4]; try simp only [hb4, bb] at hR
     refine WK.condF rfl ?_
     refine WK.skip ?_
     refine WK.sr mixed ?_
     refine GX.q (.agg (TSession.c s0)) ?_
     refine GX.q (.agg (TDesc.c d1)) ?_
     generalize hc104 : F31_crossroadsref17_follow s0 d1 = c104 at hR
     obtain ⟨c104a, c104b, c104c, c104d⟩ := c104; try dsimp only at hR
     refine GX.callp (r := .tup [.agg [.int .u32 c104a.Own, .int .u32 c104a.Peer, .int .i64 c104a.Phase, .bool c104a.Leads, .int .u32 c104a.Seq, .ro 8 (c104a.Left.map THeader.c), .ro 8 (c104a.Got.map THeader.c), .int .i64 c104a.Last.MTU, .int .i64 c104a.Last.Options, .bool c104a.Last.Init, .bool c104a.Last.More, .bool c104a.Last.Master, .int .u32 c104a.Last.Seq, .ro 8 (c104a.Last.Heads.map THeader.c)], .agg [.int .i64 c104b.MTU, .int .i64 c104b.Options, .bool c104b.Init, .bool c104b.More, .bool c104b.Master, .int .u32 c104b.Seq, .ro 8 (c104b.Heads.map THeader.c)], .bool c104c, .int .i64 c104d]) rfl rfl rfl (f31_ok s0 d1 (by omega) (by omega) (by omega) _ hc104) rfl rfl ?_
     refine GX.q (.agg [.int .u32 c104a.Own, .int .u32 c104a.Peer, .int .i64 c104a.Phase, .bool c104a.Leads, .int .u32 c104a.Seq, .ro 8 (c104a.Left.map THeader.c), .ro 8 (c104a.Got.map THeader.c), .int .i64 c104a.Last.MTU, .int .i64 c104a.Last.Options, .bool c104a.Last.Init, .bool c104a.Last.More, .bool c104a.Last.Master, .int .u32 c104a.Last.Seq, .ro 8 (c104a.Last.Heads.map THeader.c)]) ?_
     refine GX.q (.agg [.int .i64 c104b.MTU, .int .i64 c104b.Options, .bool c104b.Init, .bool c104b.More, .bool c104b.Master, .int .u32 c104b.Seq, .ro 8 (c104b.Heads.map THeader.c)]) ?_
     refine GX.q (.bool c104c) ?_
     refine GX.q (.int .i64 c104d) ?_
     refine GX.step0 (heap' := [(0, .box (TSession.c s0)), (1, .box (TDesc.c d1)), (2, .box (TSession.c c104a)), (3, .box [.int .i64 0, .int .i64 0, .bool false, .bool false, .bool false, .int .u32 0, .nils]), (4, .box [.int .i64 0, .int .i64 0, .bool false, .bool false, .bool false, .int .u32 0, .nils])]) (next' := 5) rfl rfl rfl rfl rfl ?_
     refine GX.step0 (heap' := [(0, .box (TSession.c s0)), (1, .box (TDesc.c d1)), (2, .box (TSession.c c104a)), (3, .box (TDesc.c c104b)), (4, .box [.int .i64 0, .int .i64 0, .bool false, .bool false, .bool false, .int .u32 0, .nils])]) (next' := 5) rfl rfl rfl rfl rfl ?_
     iterate 2 refine GX.m rfl ?_
     refine GX.done ?_
     refine WK.ret ?_
     subst hR
     exact RetQ.fr [] (.inr rfl) rfl rfl rfl rfl
    ·rw [hb4]; try simp only [hb4, bb] at hR
     refine WK.condT rfl ?_
     refine WK.sr mixed ?_
     refine GX.q (.agg (TSession.c s0)) ?_
     refine GX.q (.agg (TDesc.c d1)) ?_
     generalize hc97 : F30_crossroadsref17_lead s0 d1 = c97 at hR
     obtain ⟨c97a, c97b, c97c, c97d⟩ := c97; try dsimp only at hR
     refine GX.callp (r := .tup [.agg [.int .u32 c97a.Own, .int .u32 c97a.Peer, .int .i64 c97a.Phase, .bool c97a.Leads, .int .u32 c97a.Seq, .ro 8 (c97a.Left.map THeader.c), .ro 8 (c97a.Got.map THeader.c), .int .i64 c97a.Last.MTU, .int .i64 c97a.Last.Options, .bool c97a.Last.Init, .bool c97a.Last.More, .bool c97a.Last.Master, .int .u32 c97a.Last.Seq, .ro 8 (c97a.Last.Heads.map THeader.c)], .agg [.int .i64 c97b.MTU, .int .i64 c97b.Options, .bool c97b.Init, .bool c97b.More, .bool c97b.Master, .int .u32 c97b.Seq, .ro 8 (c97b.Heads.map THeader.c)], .bool c97c, .int .i64 c97d]) rfl rfl rfl (f30_ok s0 d1 (by omega) (by omega) (by omega) _ hc97) rfl rfl ?_
     refine GX.q (.agg [.int .u32 c97a.Own, .int .u32 c97a.Peer, .int .i64 c97a.Phase, .bool c97a.Leads, .int .u32 c97a.Seq, .ro 8 (c97a.Left.map THeader.c), .ro 8 (c97a.Got.map THeader.c), .int .i64 c97a.Last.MTU, .int .i64 c97a.Last.Options, .bool c97a.Last.Init, .bool c97a.Last.More, .bool c97a.Last.Master, .int .u32 c97a.Last.Seq, .ro 8 (c97a.Last.Heads.map THeader.c)]) ?_
     refine GX.q (.agg [.int .i64 c97b.MTU, .int .i64 c97b.Options, .bool c97b.Init, .bool c97b.More, .bool c97b.Master, .int .u32 c97b.Seq, .ro 8 (c97b.Heads.map THeader.c)]) ?_
     refine GX.q (.bool c97c) ?_
     refine GX.q (.int .i64 c97d) ?_
     refine GX.step0 (heap' := [(0, .box (TSession.c s0)), (1, .box (TDesc.c d1)), (2, .box (TSession.c c97a)), (3, .box [.int .i64 0, .int .i64 0, .bool false, .bool false, .bool false, .int .u32 0, .nils]), (4, .box [.int .i64 0, .int .i64 0, .bool false, .bool false, .bool false, .int .u32 0, .nils])]) (next' := 5) rfl rfl rfl rfl rfl ?_
     refine GX.step0 (heap' := [(0, .box (TSession.c s0)), (1, .box (TDesc.c d1)), (2, .box (TSession.c c97a)), (3, .box (TDesc.c c97b)), (4, .box [.int .i64 0, .int .i64 0, .bool false, .bool false, .bool false, .int .u32 0, .nils])]) (next' := 5) rfl rfl rfl rfl rfl ?_
     iterate 2 refine GX.m rfl ?_
     refine GX.done ?_
     refine WK.ret ?_
     subst hR
     exact RetQ.fr [] (.inr rfl) rfl rfl rfl rfl
   ·rw [hb3]; try simp only [hb3, bb] at hR
    refine WK.condT rfl ?_
    refine WK.seq ?_
    refine WK.drawn mixed ?_
    refine RD.q (.agg (TSession.c s0)) ?_
    refine RD.q (.agg [.int .i64 0, .int .i64 0, .bool false, .bool false, .bool false, .int .u32 0, .nils]) ?_
    iterate 2 refine RD.step0 (heap' := [(0, .box (TSession.c s0)), (1, .box (TDesc.c d1)), (2, .box (TSession.c s0)), (3, .box [.int .i64 0, .int .i64 0, .bool false, .bool false, .bool false, .int .u32 0, .nils]), (4, .box [.int .i64 0, .int .i64 0, .bool false, .bool false, .bool false, .int .u32 0, .nils])]) (next' := 5) rfl rfl rfl rfl rfl ?_
    iterate 2 refine RD.m rfl ?_
    refine RD.done rfl ?_
    refine WK.ret ?_
    subst hR
    exact RetQ.frw [] (.inr rfl) rfl rfl rfl (.tup (.cons .refl (.cons (.agg (.cons .refl (.cons .refl (.cons .refl (.cons .refl (.cons .refl (.cons .refl (.cons .nil .refl)))))))) .refl)))
  ·rw [hb2]; try simp only [hb2, bb] at hR
   iterate 5 refine GX.skip rfl rfl ?_
   refine GX.q (.bool true) ?_
   refine GX.done ?_
   refine WK.condT rfl ?_
   refine WK.seq ?_
   refine WK.drawn mixed ?_
   refine RD.q (.agg (TSession.c s0)) ?_
   refine RD.q (.agg [.int .i64 0, .int .i64 0, .bool false, .bool false, .bool false, .int .u32 0, .nils]) ?_
   iterate 2 refine RD.step0 (heap' := [(0, .box (TSession.c s0)), (1, .box (TDesc.c d1)), (2, .box (TSession.c s0)), (3, .box [.int .i64 0, .int .i64 0, .bool false, .bool false, .bool false, .int .u32 0, .nils]), (4, .box [.int .i64 0, .int .i64 0, .bool false, .bool false, .bool false, .int .u32 0, .nils])]) (next' := 5) rfl rfl rfl rfl rfl ?_
   iterate 2 refine RD.m rfl ?_
   refine RD.done rfl ?_
   refine WK.ret ?_
   subst hR
   exact RetQ.frw [] (.inr rfl) rfl rfl rfl (.tup (.cons .refl (.cons (.agg (.cons .refl (.cons .refl (.cons .refl (.cons .refl (.cons .refl (.cons .refl (.cons .nil .refl)))))))) .refl)))
 ·rw [hb1]; try simp only [hb1, bb] at hR
  refine WK.condT rfl ?_
  refine WK.seq ?_
  refine WK.sr mixed ?_
  refine GX.q (.ptr 1 2) ?_
  refine GX.q (.bool d1.Init) ?_
  refine GX.m rfl ?_
  rcases bool_two (d1.Init) with hb5 | hb5
  ·rw [hb5]; try simp only [hb5, bb] at hR
   iterate 2 refine GX.skip rfl rfl ?_
   refine GX.q (.bool false) ?_
   refine GX.m rfl ?_
   iterate 2 refine GX.skip rfl rfl ?_
   refine GX.q (.bool false) ?_
   refine GX.m rfl ?_
   iterate 4 refine GX.skip rfl rfl ?_
   refine GX.q (.bool false) ?_
   refine GX.m rfl ?_
   iterate 5 refine GX.skip rfl rfl ?_
   refine GX.q (.bool false) ?_
   refine GX.done ?_
   refine WK.condF rfl ?_
   refine WK.skip ?_
   refine WK.seq ?_
   refine WK.sr mixed ?_
   refine GX.q (.ptr 1 2) ?_
   refine GX.pure (v' := .bool false) rfl rfl rfl rfl (congrArg PVal.bool hb5) ?_
   refine GX.q (.bool true) ?_
   refine GX.m rfl ?_
   refine GX.q (.ptr 1 4) ?_
   refine GX.q (.bool d1.Master) ?_
   iterate 2 refine GX.q (.bool (!d1.Master)) ?_
   refine GX.m rfl ?_
   rcases bool_two (d1.Master) with hb6 | hb6
   ·rw [hb6]; try simp only [hb6, bb] at hR
    refine GX.q (.ptr 1 5) ?_
    refine GX.q (.int .u32 d1.Seq) ?_
    refine GX.q (.ptr 0 4) ?_
    refine GX.q (.int .u32 s0.Seq) ?_
    iterate 2 refine GX.q (.bool (decide (d1.Seq = s0.Seq))) ?_
    refine GX.m rfl ?_
    rcases bool_two (decide (d1.Seq = s0.Seq)) with hb7 | hb7
    ·rw [hb7]; try simp only [hb7, bb] at hR
     iterate 5 refine GX.skip rfl rfl ?_
     refine GX.q (.bool false) ?_
     refine GX.done ?_
     refine WK.condF rfl ?_
     refine WK.skip ?_
     refine WK.seq ?_
     refine WK.drawn mixed ?_
     refine RD.q (.agg (TSession.c s0)) ?_
     refine RD.q (.agg [.int .i64 0, .int .i64 0, .bool false, .bool false, .bool false, .int .u32 0, .nils]) ?_
     iterate 2 refine RD.step0 (heap' := [(0, .box (TSession.c s0)), (1, .box (TDesc.c d1)), (2, .box (TSession.c s0)), (3, .box [.int .i64 0, .int .i64 0, .bool false, .bool false, .bool false, .int .u32 0, .nils]), (4, .box [.int .i64 0, .int .i64 0, .bool false, .bool false, .bool false, .int .u32 0, .nils])]) (next' := 5) rfl rfl rfl rfl rfl ?_
     iterate 2 refine RD.m rfl ?_
     refine RD.done rfl ?_
     refine WK.ret ?_
     subst hR
     exact RetQ.frw [] (.inr rfl) rfl rfl rfl (.tup (.cons .refl (.cons (.agg (.cons .refl (.cons .refl (.cons .refl (.cons .refl (.cons .refl (.cons .refl (.cons .nil .refl)))))))) .refl)))
    ·rw [hb7]; try simp only [hb7, bb] at hR
     refine GX.q (.ptr 0 1) ?_
     refine GX.q (.int .u32 s0.Peer) ?_
     refine GX.q (.ptr 0 0) ?_
     refine GX.q (.int .u32 s0.Own) ?_
     iterate 2 refine GX.q (.bool (decide (s0.Peer < s0.Own))) ?_
     refine GX.done ?_
     rcases bool_two (decide (s0.Peer < s0.Own)) with hb8 | hb8
     ·rw [hb8]; try simp only [hb8, bb] at hR
      refine WK.condF rfl ?_
      refine WK.skip ?_
      refine WK.seq ?_
      refine WK.drawn mixed ?_
      refine RD.q (.agg (TSession.c s0)) ?_
      refine RD.q (.agg [.int .i64 0, .int .i64 0, .bool false, .bool false, .bool false, .int .u32 0, .nils]) ?_
      iterate 2 refine RD.step0 (heap' := [(0, .box (TSession.c s0)), (1, .box (TDesc.c d1)), (2, .box (TSession.c s0)), (3, .box [.int .i64 0, .int .i64 0, .bool false, .bool false, .bool false, .int .u32 0, .nils]), (4, .box [.int .i64 0, .int .i64 0, .bool false, .bool false, .bool false, .int .u32 0, .nils])]) (next' := 5) rfl rfl rfl rfl rfl ?_
      iterate 2 refine RD.m rfl ?_
      refine RD.done rfl ?_
      refine WK.ret ?_
      subst hR
      exact RetQ.frw [] (.inr rfl) rfl rfl rfl (.tup (.cons .refl (.cons (.agg (.cons .refl (.cons .refl (.cons .refl (.cons .refl (.cons .refl (.cons .refl (.cons .nil .refl)))))))) .refl)))
     ·rw [hb8]; try simp only [hb8, bb] at hR
      refine WK.condT rfl ?_
      refine WK.sr mixed ?_
      refine GX.q (.ptr 0 2) ?_
      refine GX.step0 (heap' := [(0, .box [.int .u32 s0.Own, .int .u32 s0.Peer, .int .i64 1, .bool s0.Leads, .int .u32 s0.Seq, .ro 8 (s0.Left.map THeader.c), .ro 8 (s0.Got.map THeader.c), .int .i64 s0.Last.MTU, .int .i64 s0.Last.Options, .bool s0.Last.Init, .bool s0.Last.More, .bool s0.Last.Master, .int .u32 s0.Last.Seq, .ro 8 (s0.Last.Heads.map THeader.c)]), (1, .box (TDesc.c d1)), (2, .box [.int .u32 0, .int .u32 0, .int .i64 0, .bool false, .int .u32 0, .nils, .nils, .int .i64 0, .int .i64 0, .bool false, .bool false, .bool false, .int .u32 0, .nils]), (3, .box [.int .i64 0, .int .i64 0, .bool false, .bool false, .bool false, .int .u32 0, .nils]), (4, .box [.int .i64 0, .int .i64 0, .bool false, .bool false, .bool false, .int .u32 0, .nils])]) (next' := 5) rfl rfl rfl rfl rfl ?_
      refine GX.done ?_
      refine WK.sr mixed ?_
      refine GX.q (.ptr 0 3) ?_
      refine GX.step0 (heap' := [(0, .box [.int .u32 s0.Own, .int .u32 s0.Peer, .int .i64 1, .bool true, .int .u32 s0.Seq, .ro 8 (s0.Left.map THeader.c), .ro 8 (s0.Got.map THeader.c), .int .i64 s0.Last.MTU, .int .i64 s0.Last.Options, .bool s0.Last.Init, .bool s0.Last.More, .bool s0.Last.Master, .int .u32 s0.Last.Seq, .ro 8 (s0.Last.Heads.map THeader.c)]), (1, .box (TDesc.c d1)), (2, .box [.int .u32 0, .int .u32 0, .int .i64 0, .bool false, .int .u32 0, .nils, .nils, .int .i64 0, .int .i64 0, .bool false, .bool false, .bool false, .int .u32 0, .nils]), (3, .box [.int .i64 0, .int .i64 0, .bool false, .bool false, .bool false, .int .u32 0, .nils]), (4, .box [.int .i64 0, .int .i64 0, .bool false, .bool false, .bool false, .int .u32 0, .nils])]) (next' := 5) rfl rfl rfl rfl rfl ?_
      refine GX.done ?_
      refine WK.sr mixed ?_
      refine GX.q (.agg [.int .u32 s0.Own, .int .u32 s0.Peer, .int .i64 1, .bool true, .int .u32 s0.Seq, .ro 8 (s0.Left.map THeader.c), .ro 8 (s0.Got.map THeader.c), .int .i64 s0.Last.MTU, .int .i64 s0.Last.Options, .bool s0.Last.Init, .bool s0.Last.More, .bool s0.Last.Master, .int .u32 s0.Last.Seq, .ro 8 (s0.Last.Heads.map THeader.c)]) ?_
      refine GX.q (.agg (TDesc.c d1)) ?_
      generalize hc75 : F30_crossroadsref17_lead (⟨s0.Own, s0.Peer, 1, true, s0.Seq, s0.Left, s0.Got, s0.Last⟩ : TSession) d1 = c75 at hR
      obtain ⟨c75a, c75b, c75c, c75d⟩ := c75; try dsimp only at hR
      refine GX.callp (r := .tup [.agg [.int .u32 c75a.Own, .int .u32 c75a.Peer, .int .i64 c75a.Phase, .bool c75a.Leads, .int .u32 c75a.Seq, .ro 8 (c75a.Left.map THeader.c), .ro 8 (c75a.Got.map THeader.c), .int .i64 c75a.Last.MTU, .int .i64 c75a.Last.Options, .bool c75a.Last.Init, .bool c75a.Last.More, .bool c75a.Last.Master, .int .u32 c75a.Last.Seq, .ro 8 (c75a.Last.Heads.map THeader.c)], .agg [.int .i64 c75b.MTU, .int .i64 c75b.Options, .bool c75b.Init, .bool c75b.More, .bool c75b.Master, .int .u32 c75b.Seq, .ro 8 (c75b.Heads.map THeader.c)], .bool c75c, .int .i64 c75d]) rfl rfl rfl (f30_ok (⟨s0.Own, s0.Peer, 1, true, s0.Seq, s0.Left, s0.Got, s0.Last⟩ : TSession) d1 (by omega) (by omega) (by omega) _ hc75) rfl rfl ?_
      refine GX.q (.agg [.int .u32 c75a.Own, .int .u32 c75a.Peer, .int .i64 c75a.Phase, .bool c75a.Leads, .int .u32 c75a.Seq, .ro 8 (c75a.Left.map THeader.c), .ro 8 (c75a.Got.map THeader.c), .int .i64 c75a.Last.MTU, .int .i64 c75a.Last.Options, .bool c75a.Last.Init, .bool c75a.Last.More, .bool c75a.Last.Master, .int .u32 c75a.Last.Seq, .ro 8 (c75a.Last.Heads.map THeader.c)]) ?_
      refine GX.q (.agg [.int .i64 c75b.MTU, .int .i64 c75b.Options, .bool c75b.Init, .bool c75b.More, .bool c75b.Master, .int .u32 c75b.Seq, .ro 8 (c75b.Heads.map THeader.c)]) ?_
      refine GX.q (.bool c75c) ?_
      refine GX.q (.int .i64 c75d) ?_
      refine GX.step0 (heap' := [(0, .box [.int .u32 s0.Own, .int .u32 s0.Peer, .int .i64 1, .bool true, .int .u32 s0.Seq, .ro 8 (s0.Left.map THeader.c), .ro 8 (s0.Got.map THeader.c), .int .i64 s0.Last.MTU, .int .i64 s0.Last.Options, .bool s0.Last.Init, .bool s0.Last.More, .bool s0.Last.Master, .int .u32 s0.Last.Seq, .ro 8 (s0.Last.Heads.map THeader.c)]), (1, .box (TDesc.c d1)), (2, .box (TSession.c c75a)), (3, .box [.int .i64 0, .int .i64 0, .bool false, .bool false, .bool false, .int .u32 0, .nils]), (4, .box [.int .i64 0, .int .i64 0, .bool false, .bool false, .bool false, .int .u32 0, .nils])]) (next' := 5) rfl rfl rfl rfl rfl ?_
      refine GX.step0 (heap' := [(0, .box [.int .u32 s0.Own, .int .u32 s0.Peer, .int .i64 1, .bool true, .int .u32 s0.Seq, .ro 8 (s0.Left.map THeader.c), .ro 8 (s0.Got.map THeader.c), .int .i64 s0.Last.MTU, .int .i64 s0.Last.Options, .bool s0.Last.Init, .bool s0.Last.More, .bool s0.Last.Master, .int .u32 s0.Last.Seq, .ro 8 (s0.Last.Heads.map THeader.c)]), (1, .box (TDesc.c d1)), (2, .box (TSession.c c75a)), (3, .box (TDesc.c c75b)), (4, .box [.int .i64 0, .int .i64 0, .bool false, .bool false, .bool false, .int .u32 0, .nils])]) (next' := 5) rfl rfl rfl rfl rfl ?_
      iterate 2 refine GX.m rfl ?_
      refine GX.done ?_
      refine WK.ret ?_
      subst hR
      exact RetQ.fr [] (.inr rfl) rfl rfl rfl rfl
   ·rw [hb6]; try simp only [hb6, bb] at hR
    iterate 5 refine GX.skip rfl rfl ?_
    refine GX.q (.bool false) ?_
    refine GX.m rfl ?_
    iterate 5 refine GX.skip rfl rfl ?_
    refine GX.q (.bool false) ?_
    refine GX.done ?_
    refine WK.condF rfl ?_
    refine WK.skip ?_
    refine WK.seq ?_
    refine WK.drawn mixed ?_
    refine RD.q (.agg (TSession.c s0)) ?_
    refine RD.q (.agg [.int .i64 0, .int .i64 0, .bool false, .bool false, .bool false, .int .u32 0, .nils]) ?_
    iterate 2 refine RD.step0 (heap' := [(0, .box (TSession.c s0)), (1, .box (TDesc.c d1)), (2, .box (TSession.c s0)), (3, .box [.int .i64 0, .int .i64 0, .bool false, .bool false, .bool false, .int .u32 0, .nils]), (4, .box [.int .i64 0, .int .i64 0, .bool false, .bool false, .bool false, .int .u32 0, .nils])]) (next' := 5) rfl rfl rfl rfl rfl ?_
    iterate 2 refine RD.m rfl ?_
    refine RD.done rfl ?_
    refine WK.ret ?_
    subst hR
    exact RetQ.frw [] (.inr rfl) rfl rfl rfl (.tup (.cons .refl (.cons (.agg (.cons .refl (.cons .refl (.cons .refl (.cons .refl (.cons .refl (.cons .refl (.cons .nil .refl)))))))) .refl)))
  ·rw [hb5]; try simp only [hb5, bb] at hR
   refine GX.q (.ptr 1 3) ?_
   iterate 2 refine GX.q (.bool d1.More) ?_
   refine GX.m rfl ?_
   rcases bool_two (d1.More) with hb9 | hb9
   ·rw [hb9]; try simp only [hb9, bb] at hR
    iterate 2 refine GX.skip rfl rfl ?_
    refine GX.q (.bool false) ?_
    refine GX.m rfl ?_
    iterate 4 refine GX.skip rfl rfl ?_
    refine GX.q (.bool false) ?_
    refine GX.m rfl ?_
    iterate 5 refine GX.skip rfl rfl ?_
    refine GX.q (.bool false) ?_
    refine GX.done ?_
    refine WK.condF rfl ?_
    refine WK.skip ?_
    refine WK.seq ?_
    refine WK.sr mixed ?_
    refine GX.q (.ptr 1 2) ?_
    refine GX.pure (v' := .bool true) rfl rfl rfl rfl (congrArg PVal.bool hb5) ?_
    refine GX.q (.bool false) ?_
    refine GX.m rfl ?_
    iterate 3 refine GX.skip rfl rfl ?_
    refine GX.q (.bool false) ?_
    refine GX.m rfl ?_
    iterate 5 refine GX.skip rfl rfl ?_
    refine GX.q (.bool false) ?_
    refine GX.m rfl ?_
    iterate 5 refine GX.skip rfl rfl ?_
    refine GX.q (.bool false) ?_
    refine GX.done ?_
    refine WK.condF rfl ?_
    refine WK.skip ?_
    refine WK.seq ?_
    refine WK.drawn mixed ?_
    refine RD.q (.agg (TSession.c s0)) ?_
    refine RD.q (.agg [.int .i64 0, .int .i64 0, .bool false, .bool false, .bool false, .int .u32 0, .nils]) ?_
    iterate 2 refine RD.step0 (heap' := [(0, .box (TSession.c s0)), (1, .box (TDesc.c d1)), (2, .box (TSession.c s0)), (3, .box [.int .i64 0, .int .i64 0, .bool false, .bool false, .bool false, .int .u32 0, .nils]), (4, .box [.int .i64 0, .int .i64 0, .bool false, .bool false, .bool false, .int .u32 0, .nils])]) (next' := 5) rfl rfl rfl rfl rfl ?_
    iterate 2 refine RD.m rfl ?_
    refine RD.done rfl ?_
    refine WK.ret ?_
    subst hR
    exact RetQ.frw [] (.inr rfl) rfl rfl rfl (.tup (.cons .refl (.cons (.agg (.cons .refl (.cons .refl (.cons .refl (.cons .refl (.cons .refl (.cons .refl (.cons .nil .refl)))))))) .refl)))
   ·rw [hb9]; try simp only [hb9, bb] at hR
    refine GX.q (.ptr 1 4) ?_
    iterate 2 refine GX.q (.bool d1.Master) ?_
    refine GX.m rfl ?_
    rcases bool_two (d1.Master) with hb10 | hb10
    ·rw [hb10]; try simp only [hb10, bb] at hR
     iterate 4 refine GX.skip rfl rfl ?_
     refine GX.q (.bool false) ?_
     refine GX.m rfl ?_
     iterate 5 refine GX.skip rfl rfl ?_
     refine GX.q (.bool false) ?_
     refine GX.done ?_
     refine WK.condF rfl ?_
     refine WK.skip ?_
     refine WK.seq ?_
     refine WK.sr mixed ?_
     refine GX.q (.ptr 1 2) ?_
     refine GX.pure (v' := .bool true) rfl rfl rfl rfl (congrArg PVal.bool hb5) ?_
     refine GX.q (.bool false) ?_
     refine GX.m rfl ?_
     iterate 3 refine GX.skip rfl rfl ?_
     refine GX.q (.bool false) ?_
     refine GX.m rfl ?_
     iterate 5 refine GX.skip rfl rfl ?_
     refine GX.q (.bool false) ?_
     refine GX.m rfl ?_
     iterate 5 refine GX.skip rfl rfl ?_
     refine GX.q (.bool false) ?_
     refine GX.done ?_
     refine WK.condF rfl ?_
     refine WK.skip ?_
     refine WK.seq ?_
     refine WK.drawn mixed ?_
     refine RD.q (.agg (TSession.c s0)) ?_
     refine RD.q (.agg [.int .i64 0, .int .i64 0, .bool false, .bool false, .bool false, .int .u32 0, .nils]) ?_
     iterate 2 refine RD.step0 (heap' := [(0, .box (TSession.c s0)), (1, .box (TDesc.c d1)), (2, .box (TSession.c s0)), (3, .box [.int .i64 0, .int .i64 0, .bool false, .bool false, .bool false, .int .u32 0, .nils]), (4, .box [.int .i64 0, .int .i64 0, .bool false, .bool false, .bool false, .int .u32 0, .nils])]) (next' := 5) rfl rfl rfl rfl rfl ?_
     iterate 2 refine RD.m rfl ?_
     refine RD.done rfl ?_
     refine WK.ret ?_
     subst hR
     exact RetQ.frw [] (.inr rfl) rfl rfl rfl (.tup (.cons .refl (.cons (.agg (.cons .refl (.cons .refl (.cons .refl (.cons .refl (.cons .refl (.cons .refl (.cons .nil .refl)))))))) .refl)))
    ·rw [hb10]; try simp only [hb10, bb] at hR
     refine GX.q (.ptr 1 6) ?_
     refine GX.q (.ro 8 (d1.Heads.map THeader.c)) ?_
     refine GX.pure (v' := .int .i64 (d1.Heads.length : Int)) rfl rfl rfl rfl (len_map _ _) ?_
     iterate 2 refine GX.q (.bool (decide ((d1.Heads.length : Int) = 0))) ?_
     refine GX.m rfl ?_
     rcases bool_two (decide ((d1.Heads.length : Int) = 0)) with hb11 | hb11
     ·rw [hb11]; try simp only [hb11, bb] at hR
      iterate 5 refine GX.skip rfl rfl ?_
      refine GX.q (.bool false) ?_
      refine GX.done ?_
      refine WK.condF rfl ?_
      refine WK.skip ?_
      refine WK.seq ?_
      refine WK.sr mixed ?_
      refine GX.q (.ptr 1 2) ?_
      refine GX.pure (v' := .bool true) rfl rfl rfl rfl (congrArg PVal.bool hb5) ?_
      refine GX.q (.bool false) ?_
      refine GX.m rfl ?_
      iterate 3 refine GX.skip rfl rfl ?_
      refine GX.q (.bool false) ?_
      refine GX.m rfl ?_
      iterate 5 refine GX.skip rfl rfl ?_
      refine GX.q (.bool false) ?_
      refine GX.m rfl ?_
      iterate 5 refine GX.skip rfl rfl ?_
      refine GX.q (.bool false) ?_
      refine GX.done ?_
      refine WK.condF rfl ?_
      refine WK.skip ?_
      refine WK.seq ?_
      refine WK.drawn mixed ?_
      refine RD.q (.agg (TSession.c s0)) ?_
      refine RD.q (.agg [.int .i64 0, .int .i64 0, .bool false, .bool false, .bool false, .int .u32 0, .nils]) ?_
      iterate 2 refine RD.step0 (heap' := [(0, .box (TSession.c s0)), (1, .box (TDesc.c d1)), (2, .box (TSession.c s0)), (3, .box [.int .i64 0, .int .i64 0, .bool false, .bool false, .bool false, .int .u32 0, .nils]), (4, .box [.int .i64 0, .int .i64 0, .bool false, .bool false, .bool false, .int .u32 0, .nils])]) (next' := 5) rfl rfl rfl rfl rfl ?_
      iterate 2 refine RD.m rfl ?_
      refine RD.done rfl ?_
      refine WK.ret ?_
      subst hR
      exact RetQ.frw [] (.inr rfl) rfl rfl rfl (.tup (.cons .refl (.cons (.agg (.cons .refl (.cons .refl (.cons .refl (.cons .refl (.cons .refl (.cons .refl (.cons .nil .refl)))))))) .refl)))
     ·rw [hb11]; try simp only [hb11, bb] at hR
      refine GX.q (.ptr 0 1) ?_
      refine GX.q (.int .u32 s0.Peer) ?_
      refine GX.q (.ptr 0 0) ?_
      refine GX.q (.int .u32 s0.Own) ?_
      iterate 2 refine GX.q (.bool (decide (s0.Own < s0.Peer))) ?_
      refine GX.done ?_
      rcases bool_two (decide (s0.Own < s0.Peer)) with hb12 | hb12
      ·rw [hb12]; try simp only [hb12, bb] at hR
       refine WK.condF rfl ?_
       refine WK.skip ?_
       refine WK.seq ?_
       refine WK.sr mixed ?_
       refine GX.q (.ptr 1 2) ?_
       refine GX.pure (v' := .bool true) rfl rfl rfl rfl (congrArg PVal.bool hb5) ?_
       refine GX.q (.bool false) ?_
       refine GX.m rfl ?_
       iterate 3 refine GX.skip rfl rfl ?_
       refine GX.q (.bool false) ?_
       refine GX.m rfl ?_
       iterate 5 refine GX.skip rfl rfl ?_
       refine GX.q (.bool false) ?_
       refine GX.m rfl ?_
       iterate 5 refine GX.skip rfl rfl ?_
       refine GX.q (.bool false) ?_
       refine GX.done ?_
       refine WK.condF rfl ?_
       refine WK.skip ?_
       refine WK.seq ?_
       refine WK.drawn mixed ?_
       refine RD.q (.agg (TSession.c s0)) ?_
       refine RD.q (.agg [.int .i64 0, .int .i64 0, .bool false, .bool false, .bool false, .int .u32 0, .nils]) ?_
       iterate 2 refine RD.step0 (heap' := [(0, .box (TSession.c s0)), (1, .box (TDesc.c d1)), (2, .box (TSession.c s0)), (3, .box [.int .i64 0, .int .i64 0, .bool false, .bool false, .bool false, .int .u32 0, .nils]), (4, .box [.int .i64 0, .int .i64 0, .bool false, .bool false, .bool false, .int .u32 0, .nils])]) (next' := 5) rfl rfl rfl rfl rfl ?_
       iterate 2 refine RD.m rfl ?_
       refine RD.done rfl ?_
       refine WK.ret ?_
       subst hR
       exact RetQ.frw [] (.inr rfl) rfl rfl rfl (.tup (.cons .refl (.cons (.agg (.cons .refl (.cons .refl (.cons .refl (.cons .refl (.cons .refl (.cons .refl (.cons .nil .refl)))))))) .refl)))
      ·rw [hb12]; try simp only [hb12, bb] at hR
       refine WK.condT rfl ?_
       refine WK.sr mixed ?_
       refine GX.q (.ptr 0 2) ?_
       refine GX.step0 (heap' := [(0, .box [.int .u32 s0.Own, .int .u32 s0.Peer, .int .i64 1, .bool s0.Leads, .int .u32 s0.Seq, .ro 8 (s0.Left.map THeader.c), .ro 8 (s0.Got.map THeader.c), .int .i64 s0.Last.MTU, .int .i64 s0.Last.Options, .bool s0.Last.Init, .bool s0.Last.More, .bool s0.Last.Master, .int .u32 s0.Last.Seq, .ro 8 (s0.Last.Heads.map THeader.c)]), (1, .box (TDesc.c d1)), (2, .box [.int .u32 0, .int .u32 0, .int .i64 0, .bool false, .int .u32 0, .nils, .nils, .int .i64 0, .int .i64 0, .bool false, .bool false, .bool false, .int .u32 0, .nils]), (3, .box [.int .i64 0, .int .i64 0, .bool false, .bool false, .bool false, .int .u32 0, .nils]), (4, .box [.int .i64 0, .int .i64 0, .bool false, .bool false, .bool false, .int .u32 0, .nils])]) (next' := 5) rfl rfl rfl rfl rfl ?_
       refine GX.done ?_
       refine WK.sr mixed ?_
       refine GX.q (.ptr 1 5) ?_
       refine GX.q (.int .u32 d1.Seq) ?_
       refine GX.q (.ptr 0 4) ?_
       refine GX.step0 (heap' := [(0, .box [.int .u32 s0.Own, .int .u32 s0.Peer, .int .i64 1, .bool s0.Leads, .int .u32 d1.Seq, .ro 8 (s0.Left.map THeader.c), .ro 8 (s0.Got.map THeader.c), .int .i64 s0.Last.MTU, .int .i64 s0.Last.Options, .bool s0.Last.Init, .bool s0.Last.More, .bool s0.Last.Master, .int .u32 s0.Last.Seq, .ro 8 (s0.Last.Heads.map THeader.c)]), (1, .box (TDesc.c d1)), (2, .box [.int .u32 0, .int .u32 0, .int .i64 0, .bool false, .int .u32 0, .nils, .nils, .int .i64 0, .int .i64 0, .bool false, .bool false, .bool false, .int .u32 0, .nils]), (3, .box [.int .i64 0, .int .i64 0, .bool false, .bool false, .bool false, .int .u32 0, .nils]), (4, .box [.int .i64 0, .int .i64 0, .bool false, .bool false, .bool false, .int .u32 0, .nils])]) (next' := 5) rfl rfl rfl rfl rfl ?_
       refine GX.done ?_
       refine WK.sr mixed ?_
       refine GX.q (.agg [.int .u32 s0.Own, .int .u32 s0.Peer, .int .i64 1, .bool s0.Leads, .int .u32 d1.Seq, .ro 8 (s0.Left.map THeader.c), .ro 8 (s0.Got.map THeader.c), .int .i64 s0.Last.MTU, .int .i64 s0.Last.Options, .bool s0.Last.Init, .bool s0.Last.More, .bool s0.Last.Master, .int .u32 s0.Last.Seq, .ro 8 (s0.Last.Heads.map THeader.c)]) ?_
       generalize hc44 : F29_crossroadsref17_page (⟨s0.Own, s0.Peer, 1, s0.Leads, d1.Seq, s0.Left, s0.Got, s0.Last⟩ : TSession) = c44 at hR
       obtain ⟨c44a, c44b⟩ := c44; try dsimp only at hR
       refine GX.callp (r := .tup [.agg [.int .u32 c44a.Own, .int .u32 c44a.Peer, .int .i64 c44a.Phase, .bool c44a.Leads, .int .u32 c44a.Seq, .ro 8 (c44a.Left.map THeader.c), .ro 8 (c44a.Got.map THeader.c), .int .i64 c44a.Last.MTU, .int .i64 c44a.Last.Options, .bool c44a.Last.Init, .bool c44a.Last.More, .bool c44a.Last.Master, .int .u32 c44a.Last.Seq, .ro 8 (c44a.Last.Heads.map THeader.c)], .agg [.int .i64 c44b.MTU, .int .i64 c44b.Options, .bool c44b.Init, .bool c44b.More, .bool c44b.Master, .int .u32 c44b.Seq, .ro 8 (c44b.Heads.map THeader.c)]]) rfl rfl rfl (f29_ok (⟨s0.Own, s0.Peer, 1, s0.Leads, d1.Seq, s0.Left, s0.Got, s0.Last⟩ : TSession) (by omega) _ hc44) rfl rfl ?_
       refine GX.m rfl ?_
       refine GX.q (.agg [.int .u32 c44a.Own, .int .u32 c44a.Peer, .int .i64 c44a.Phase, .bool c44a.Leads, .int .u32 c44a.Seq, .ro 8 (c44a.Left.map THeader.c), .ro 8 (c44a.Got.map THeader.c), .int .i64 c44a.Last.MTU, .int .i64 c44a.Last.Options, .bool c44a.Last.Init, .bool c44a.Last.More, .bool c44a.Last.Master, .int .u32 c44a.Last.Seq, .ro 8 (c44a.Last.Heads.map THeader.c)]) ?_
       refine GX.q (.agg [.int .i64 c44b.MTU, .int .i64 c44b.Options, .bool c44b.Init, .bool c44b.More, .bool c44b.Master, .int .u32 c44b.Seq, .ro 8 (c44b.Heads.map THeader.c)]) ?_
       refine GX.step (v' := .ptr 5 0) (heap' := [(0, .box [.int .u32 s0.Own, .int .u32 s0.Peer, .int .i64 1, .bool s0.Leads, .int .u32 d1.Seq, .ro 8 (s0.Left.map THeader.c), .ro 8 (s0.Got.map THeader.c), .int .i64 s0.Last.MTU, .int .i64 s0.Last.Options, .bool s0.Last.Init, .bool s0.Last.More, .bool s0.Last.Master, .int .u32 s0.Last.Seq, .ro 8 (s0.Last.Heads.map THeader.c)]), (1, .box (TDesc.c d1)), (2, .box [.int .u32 0, .int .u32 0, .int .i64 0, .bool false, .int .u32 0, .nils, .nils, .int .i64 0, .int .i64 0, .bool false, .bool false, .bool false, .int .u32 0, .nils]), (3, .box [.int .i64 0, .int .i64 0, .bool false, .bool false, .bool false, .int .u32 0, .nils]), (4, .box [.int .i64 0, .int .i64 0, .bool false, .bool false, .bool false, .int .u32 0, .nils]), (5, .box [.int .u32 0, .int .u32 0, .int .i64 0, .bool false, .int .u32 0, .nils, .nils, .int .i64 0, .int .i64 0, .bool false, .bool false, .bool false, .int .u32 0, .nils])]) (next' := 6) rfl rfl rfl rfl rfl rfl rfl ?_
       refine GX.step (v' := .ptr 6 0) (heap' := [(0, .box [.int .u32 s0.Own, .int .u32 s0.Peer, .int .i64 1, .bool s0.Leads, .int .u32 d1.Seq, .ro 8 (s0.Left.map THeader.c), .ro 8 (s0.Got.map THeader.c), .int .i64 s0.Last.MTU, .int .i64 s0.Last.Options, .bool s0.Last.Init, .bool s0.Last.More, .bool s0.Last.Master, .int .u32 s0.Last.Seq, .ro 8 (s0.Last.Heads.map THeader.c)]), (1, .box (TDesc.c d1)), (2, .box [.int .u32 0, .int .u32 0, .int .i64 0, .bool false, .int .u32 0, .nils, .nils, .int .i64 0, .int .i64 0, .bool false, .bool false, .bool false, .int .u32 0, .nils]), (3, .box [.int .i64 0, .int .i64 0, .bool false, .bool false, .bool false, .int .u32 0, .nils]), (4, .box [.int .i64 0, .int .i64 0, .bool false, .bool false, .bool false, .int .u32 0, .nils]), (5, .box [.int .u32 0, .int .u32 0, .int .i64 0, .bool false, .int .u32 0, .nils, .nils, .int .i64 0, .int .i64 0, .bool false, .bool false, .bool false, .int .u32 0, .nils]), (6, .box [.int .i64 0, .int .i64 0, .bool false, .bool false, .bool false, .int .u32 0, .nils])]) (next' := 7) rfl rfl rfl rfl rfl rfl rfl ?_
       refine GX.step0 (heap' := [(0, .box [.int .u32 s0.Own, .int .u32 s0.Peer, .int .i64 1, .bool s0.Leads, .int .u32 d1.Seq, .ro 8 (s0.Left.map THeader.c), .ro 8 (s0.Got.map THeader.c), .int .i64 s0.Last.MTU, .int .i64 s0.Last.Options, .bool s0.Last.Init, .bool s0.Last.More, .bool s0.Last.Master, .int .u32 s0.Last.Seq, .ro 8 (s0.Last.Heads.map THeader.c)]), (1, .box (TDesc.c d1)), (2, .box [.int .u32 0, .int .u32 0, .int .i64 0, .bool false, .int .u32 0, .nils, .nils, .int .i64 0, .int .i64 0, .bool false, .bool false, .bool false, .int .u32 0, .nils]), (3, .box [.int .i64 0, .int .i64 0, .bool false, .bool false, .bool false, .int .u32 0, .nils]), (4, .box [.int .i64 0, .int .i64 0, .bool false, .bool false, .bool false, .int .u32 0, .nils]), (5, .box (TSession.c c44a)), (6, .box [.int .i64 0, .int .i64 0, .bool false, .bool false, .bool false, .int .u32 0, .nils])]) (next' := 7) rfl rfl rfl rfl rfl ?_
       refine GX.step0 (heap' := [(0, .box [.int .u32 s0.Own, .int .u32 s0.Peer, .int .i64 1, .bool s0.Leads, .int .u32 d1.Seq, .ro 8 (s0.Left.map THeader.c), .ro 8 (s0.Got.map THeader.c), .int .i64 s0.Last.MTU, .int .i64 s0.Last.Options, .bool s0.Last.Init, .bool s0.Last.More, .bool s0.Last.Master, .int .u32 s0.Last.Seq, .ro 8 (s0.Last.Heads.map THeader.c)]), (1, .box (TDesc.c d1)), (2, .box [.int .u32 0, .int .u32 0, .int .i64 0, .bool false, .int .u32 0, .nils, .nils, .int .i64 0, .int .i64 0, .bool false, .bool false, .bool false, .int .u32 0, .nils]), (3, .box [.int .i64 0, .int .i64 0, .bool false, .bool false, .bool false, .int .u32 0, .nils]), (4, .box [.int .i64 0, .int .i64 0, .bool false, .bool false, .bool false, .int .u32 0, .nils]), (5, .box (TSession.c c44a)), (6, .box (TDesc.c c44b))]) (next' := 7) rfl rfl rfl rfl rfl ?_
       refine GX.done ?_
       refine WK.seq ?_
       refine WK.drawn mixed ?_
       refine RD.q (.agg (TSession.c c44a)) ?_
       refine RD.q (.agg (TDesc.c c44b)) ?_
       refine RD.step0 (heap' := [(0, .box [.int .u32 s0.Own, .int .u32 s0.Peer, .int .i64 1, .bool s0.Leads, .int .u32 d1.Seq, .ro 8 (s0.Left.map THeader.c), .ro 8 (s0.Got.map THeader.c), .int .i64 s0.Last.MTU, .int .i64 s0.Last.Options, .bool s0.Last.Init, .bool s0.Last.More, .bool s0.Last.Master, .int .u32 s0.Last.Seq, .ro 8 (s0.Last.Heads.map THeader.c)]), (1, .box (TDesc.c d1)), (2, .box (TSession.c c44a)), (3, .box [.int .i64 0, .int .i64 0, .bool false, .bool false, .bool false, .int .u32 0, .nils]), (4, .box [.int .i64 0, .int .i64 0, .bool false, .bool false, .bool false, .int .u32 0, .nils]), (5, .box (TSession.c c44a)), (6, .box (TDesc.c c44b))]) (next' := 7) rfl rfl rfl rfl rfl ?_
       refine RD.step0 (heap' := [(0, .box [.int .u32 s0.Own, .int .u32 s0.Peer, .int .i64 1, .bool s0.Leads, .int .u32 d1.Seq, .ro 8 (s0.Left.map THeader.c), .ro 8 (s0.Got.map THeader.c), .int .i64 s0.Last.MTU, .int .i64 s0.Last.Options, .bool s0.Last.Init, .bool s0.Last.More, .bool s0.Last.Master, .int .u32 s0.Last.Seq, .ro 8 (s0.Last.Heads.map THeader.c)]), (1, .box (TDesc.c d1)), (2, .box (TSession.c c44a)), (3, .box (TDesc.c c44b)), (4, .box [.int .i64 0, .int .i64 0, .bool false, .bool false, .bool false, .int .u32 0, .nils]), (5, .box (TSession.c c44a)), (6, .box (TDesc.c c44b))]) (next' := 7) rfl rfl rfl rfl rfl ?_
       iterate 2 refine RD.m rfl ?_
       refine RD.done rfl ?_
       refine WK.ret ?_
       subst hR
       exact RetQ.fr [] (.inr rfl) rfl rfl rfl rfl

theorem f17_ok (s0 : TSession) (R : TDesc × Bool) (hR : F17_exch_Again s0 = R) : FnOk Try.prog 17 [.agg (TSession.c s0)] [] 0 (.tup [.agg (TDesc.c R.1), .bool R.2]) [] 0 := by
 refine FnOk.wk i17 rfl rfl ?_
 unfold F17_exch_Again at hR
 change WK _ _ _ [ac17] _ ⟨[(0, .agg (TSession.c s0))], [], 0⟩
 unfold ac17
 refine WK.sr mixed ?_
 refine GX.step (v' := .ptr 0 0) (heap' := [(0, .box (TSession.c s0))]) (next' := 1) rfl rfl rfl rfl rfl rfl rfl ?_
 refine GX.step (v' := .ptr 1 0) (heap' := [(0, .box (TSession.c s0)), (1, .box [.int .i64 0, .int .i64 0, .bool false, .bool false, .bool false, .int .u32 0, .nils])]) (next' := 2) rfl rfl rfl rfl rfl rfl rfl ?_
 refine GX.m rfl ?_
 refine GX.done ?_
 refine WK.seq ?_
 refine WK.sr mixed ?_
 refine GX.q (.ptr 0 2) ?_
 refine GX.q (.int .i64 s0.Phase) ?_
 refine GX.q (.bool (decide (s0.Phase = 0))) ?_
 refine GX.m rfl ?_
 rcases bool_two (decide (s0.Phase = 0)) with hb1 | hb1
 ·rw [hb1]; try simp only [hb1, bb] at hR
  refine GX.q (.ptr 0 3) ?_
  refine GX.q (.bool s0.Leads) ?_
  refine GX.m rfl ?_
  rcases bool_two (s0.Leads) with hb2 | hb2
  ·rw [hb2]; try simp only [hb2, bb] at hR
   iterate 3 refine GX.skip rfl rfl ?_
   iterate 2 refine GX.q (.bool false) ?_
   refine GX.done ?_
   refine WK.condF rfl ?_
   refine WK.skip ?_
   refine WK.sr mixed ?_
   refine GX.q (.agg [.int .i64 0, .int .i64 0, .bool false, .bool false, .bool false, .int .u32 0, .nils]) ?_
   refine GX.step0 (heap' := [(0, .box (TSession.c s0)), (1, .box [.int .i64 0, .int .i64 0, .bool false, .bool false, .bool false, .int .u32 0, .nils])]) (next' := 2) rfl rfl rfl rfl rfl ?_
   refine GX.m rfl ?_
   refine GX.done ?_
   refine WK.ret ?_
   subst hR
   exact RetQ.frw [] (.inr rfl) rfl rfl rfl (.tup (.cons (.agg (.cons .refl (.cons .refl (.cons .refl (.cons .refl (.cons .refl (.cons .refl (.cons .nil .refl)))))))) .refl))
  ·rw [hb2]; try simp only [hb2, bb] at hR
   refine GX.q (.ptr 0 2) ?_
   refine GX.q (.int .i64 s0.Phase) ?_
   iterate 3 refine GX.q (.bool (decide (s0.Phase = 1))) ?_
   refine GX.done ?_
   rcases bool_two (decide (s0.Phase = 1)) with hb3 | hb3
   ·rw [hb3]; try simp only [hb3, bb] at hR
    refine WK.condF rfl ?_
    refine WK.skip ?_
    refine WK.sr mixed ?_
    refine GX.q (.agg [.int .i64 0, .int .i64 0, .bool false, .bool false, .bool false, .int .u32 0, .nils]) ?_
    refine GX.step0 (heap' := [(0, .box (TSession.c s0)), (1, .box [.int .i64 0, .int .i64 0, .bool false, .bool false, .bool false, .int .u32 0, .nils])]) (next' := 2) rfl rfl rfl rfl rfl ?_
    refine GX.m rfl ?_
    refine GX.done ?_
    refine WK.ret ?_
    subst hR
    exact RetQ.frw [] (.inr rfl) rfl rfl rfl (.tup (.cons (.agg (.cons .refl (.cons .refl (.cons .refl (.cons .refl (.cons .refl (.cons .refl (.cons .nil .refl)))))))) .refl))
   ·rw [hb3]; try simp only [hb3, bb] at hR
    refine WK.condT rfl ?_
    refine WK.sr mixed ?_
    refine GX.q (.ptr 0 7) ?_
    refine GX.q (.agg [.int .i64 s0.Last.MTU, .int .i64 s0.Last.Options, .bool s0.Last.Init, .bool s0.Last.More, .bool s0.Last.Master, .int .u32 s0.Last.Seq, .ro 8 (s0.Last.Heads.map THeader.c)]) ?_
    refine GX.step0 (heap' := [(0, .box (TSession.c s0)), (1, .box (TDesc.c s0.Last))]) (next' := 2) rfl rfl rfl rfl rfl ?_
    refine GX.m rfl ?_
    refine GX.done ?_
    refine WK.ret ?_
    subst hR
    exact RetQ.fr [] (.inr rfl) rfl rfl rfl rfl
 ·rw [hb1]; try simp only [hb1, bb] at hR
  iterate 7 refine GX.skip rfl rfl ?_
  refine GX.q (.bool true) ?_
  refine GX.done ?_
  refine WK.condT rfl ?_
  refine WK.sr mixed ?_
  refine GX.q (.ptr 0 7) ?_
  refine GX.q (.agg [.int .i64 s0.Last.MTU, .int .i64 s0.Last.Options, .bool s0.Last.Init, .bool s0.Last.More, .bool s0.Last.Master, .int .u32 s0.Last.Seq, .ro 8 (s0.Last.Heads.map THeader.c)]) ?_
  refine GX.step0 (heap' := [(0, .box (TSession.c s0)), (1, .box (TDesc.c s0.Last))]) (next' := 2) rfl rfl rfl rfl rfl ?_
  refine GX.m rfl ?_
  refine GX.done ?_
  refine WK.ret ?_
  subst hR
  exact RetQ.fr [] (.inr rfl) rfl rfl rfl rfl

theorem f18_ok (s0 : TSession) (R : TDesc × Bool) (hR : F18_crossroadsref17_Again s0 = R) : FnOk Try.prog 18 [.agg (TSession.c s0)] [] 0 (.tup [.agg (TDesc.c R.1), .bool R.2]) [] 0 := by
 refine FnOk.wk i18 rfl rfl ?_
 unfold F18_crossroadsref17_Again at hR
 change WK _ _ _ [ac18] _ ⟨[(0, .agg (TSession.c s0))], [], 0⟩
 unfold ac18
 refine WK.sr mixed ?_
 refine GX.step (v' := .ptr 0 0) (heap' := [(0, .box (TSession.c s0))]) (next' := 1) rfl rfl rfl rfl rfl rfl rfl ?_
 refine GX.step (v' := .ptr 1 0) (heap' := [(0, .box (TSession.c s0)), (1, .box [.int .i64 0, .int .i64 0, .bool false, .bool false, .bool false, .int .u32 0, .nils])]) (next' := 2) rfl rfl rfl rfl rfl rfl rfl ?_
 refine GX.m rfl ?_
 refine GX.done ?_
 refine WK.seq ?_
 refine WK.sr mixed ?_
 refine GX.q (.ptr 0 2) ?_
 refine GX.q (.int .i64 s0.Phase) ?_
 refine GX.q (.bool (decide (s0.Phase = 0))) ?_
 refine GX.m rfl ?_
 rcases bool_two (decide (s0.Phase = 0)) with hb1 | hb1
 ·rw [hb1]; try simp only [hb1, bb] at hR
  refine GX.q (.ptr 0 3) ?_
  refine GX.q (.bool s0.Leads) ?_
  refine GX.m rfl ?_
  rcases bool_two (s0.Leads) with hb2 | hb2
  ·rw [hb2]; try simp only [hb2, bb] at hR
   iterate 3 refine GX.skip rfl rfl ?_
   iterate 2 refine GX.q (.bool false) ?_
   refine GX.done ?_
   refine WK.condF rfl ?_
   refine WK.skip ?_
   refine WK.sr mixed ?_
   refine GX.q (.agg [.int .i64 0, .int .i64 0, .bool false, .bool false, .bool false, .int .u32 0, .nils]) ?_
   refine GX.step0 (heap' := [(0, .box (TSession.c s0)), (1, .box [.int .i64 0, .int .i64 0, .bool false, .bool false, .bool false, .int .u32 0, .nils])]) (next' := 2) rfl rfl rfl rfl rfl ?_
   refine GX.m rfl ?_
   refine GX.done ?_
   refine WK.ret ?_
   subst hR
   exact RetQ.frw [] (.inr rfl) rfl rfl rfl (.tup (.cons (.agg (.cons .refl (.cons .refl (.cons .refl (.cons .refl (.cons .refl (.cons .refl (.cons .nil .refl)))))))) .refl))
  ·rw [hb2]; try simp only [hb2, bb] at hR
   refine GX.q (.ptr 0 2) ?_
   refine GX.q (.int .i64 s0.Phase) ?_
   iterate 3 refine GX.q (.bool (decide (s0.Phase = 1))) ?_
   refine GX.done ?_
   rcases bool_two (decide (s0.Phase = 1)) with hb3 | hb3
   ·rw [hb3]; try simp only [hb3, bb] at hR
    refine WK.condF rfl ?_
    refine WK.skip ?_
    refine WK.sr mixed ?_
    refine GX.q (.agg [.int .i64 0, .int .i64 0, .bool false, .bool false, .bool false, .int .u32 0, .nils]) ?_
    refine GX.step0 (heap' := [(0, .box (TSession.c s0)), (1, .box [.int .i64 0, .int .i64 0, .bool false, .bool false, .bool false, .int .u32 0, .nils])]) (next' := 2) rfl rfl rfl rfl rfl ?_
    refine GX.m rfl ?_
    refine GX.done ?_
    refine WK.ret ?_
    subst hR
    exact RetQ.frw [] (.inr rfl) rfl rfl rfl (.tup (.cons (.agg (.cons .refl (.cons .refl (.cons .refl (.cons .refl (.cons .refl (.cons .refl (.cons .nil .refl)))))))) .refl))
   ·rw [hb3]; try simp only [hb3, bb] at hR
    refine WK.condT rfl ?_
    refine WK.sr mixed ?_
    refine GX.q (.ptr 0 7) ?_
    refine GX.q (.agg [.int .i64 s0.Last.MTU, .int .i64 s0.Last.Options, .bool s0.Last.Init, .bool s0.Last.More, .bool s0.Last.Master, .int .u32 s0.Last.Seq, .ro 8 (s0.Last.Heads.map THeader.c)]) ?_
    refine GX.step0 (heap' := [(0, .box (TSession.c s0)), (1, .box (TDesc.c s0.Last))]) (next' := 2) rfl rfl rfl rfl rfl ?_
    refine GX.m rfl ?_
    refine GX.done ?_
    refine WK.ret ?_
    subst hR
    exact RetQ.fr [] (.inr rfl) rfl rfl rfl rfl
 ·rw [hb1]; try simp only [hb1, bb] at hR
  iterate 7 refine GX.skip rfl rfl ?_
  refine GX.q (.bool true) ?_
  refine GX.done ?_
  refine WK.condT rfl ?_
  refine WK.sr mixed ?_
  refine GX.q (.ptr 0 7) ?_
  refine GX.q (.agg [.int .i64 s0.Last.MTU, .int .i64 s0.Last.Options, .bool s0.Last.Init, .bool s0.Last.More, .bool s0.Last.Master, .int .u32 s0.Last.Seq, .ro 8 (s0.Last.Heads.map THeader.c)]) ?_
  refine GX.step0 (heap' := [(0, .box (TSession.c s0)), (1, .box (TDesc.c s0.Last))]) (next' := 2) rfl rfl rfl rfl rfl ?_
  refine GX.m rfl ?_
  refine GX.done ?_
  refine WK.ret ?_
  subst hR
  exact RetQ.fr [] (.inr rfl) rfl rfl rfl rfl

theorem f3_ok (s0 : TStart) (l1 : List TDesc) (R : Bool) (hR : F3_crossroadslaw17_ExchPlays s0 l1 = R) : FnOk Try.prog 3 [.agg (TStart.c s0), .ro 7 (l1.map TDesc.c)] [] 0 (.bool R) [] 0 := by
 refine FnOk.wk i3 rfl rfl ?_
 unfold F3_crossroadslaw17_ExchPlays at hR
 change WK _ _ _ [ac3] _ ⟨[(0, .agg (TStart.c s0)), (1, .ro 7 (l1.map TDesc.c))], [], 0⟩
 unfold ac3
 refine WK.sr mixed ?_
 refine GX.step (v' := .ptr 0 0) (heap' := [(0, .box (TStart.c s0))]) (next' := 1) rfl rfl rfl rfl rfl rfl rfl ?_
 refine GX.m rfl ?_
 refine GX.done ?_
 refine WK.seq ?_
 refine WK.sr mixed ?_
 refine GX.q (.ptr 0 3) ?_
 refine GX.q (.ro 8 (s0.Heads.map THeader.c)) ?_
 refine GX.pure (v' := .int .i64 (s0.Heads.length : Int)) rfl rfl rfl rfl (len_map _ _) ?_
 refine GX.q (.bool (decide (120 < (s0.Heads.length : Int)))) ?_
 refine GX.done ?_
 rcases bool_two (decide (120 < (s0.Heads.length : Int))) with hb1 | hb1
 ·rw [hb1]; try simp only [hb1, bb] at hR
  refine WK.condF rfl ?_
  refine WK.skip ?_
  refine WK.sr mixed ?_
  refine GX.q (.ptr 0 0) ?_
  refine GX.q (.int .u32 s0.Own) ?_
  refine GX.q (.ptr 0 1) ?_
  refine GX.q (.int .u32 s0.Peer) ?_
  refine GX.q (.ptr 0 2) ?_
  refine GX.q (.int .u32 s0.Seq) ?_
  refine GX.q (.ptr 0 3) ?_
  refine GX.q (.ro 8 (s0.Heads.map THeader.c)) ?_
  generalize hc36 : F9_exch_Open s0.Own s0.Peer s0.Seq s0.Heads = c36 at hR
  have hpo0_c36 := post9a s0.Own s0.Peer s0.Seq s0.Heads; rw [hc36] at hpo0_c36
  have hpo1_c36 := post9b s0.Own s0.Peer s0.Seq s0.Heads; rw [hc36] at hpo1_c36
  have hpo2_c36 := post9c s0.Own s0.Peer s0.Seq s0.Heads; rw [hc36] at hpo2_c36
  have hpo3_c36 := post9d s0.Own s0.Peer s0.Seq s0.Heads; rw [hc36] at hpo3_c36
  obtain ⟨c36a, c36b⟩ := c36; try dsimp only at hR; try dsimp only at hpo0_c36; try dsimp only at hpo1_c36; try dsimp only at hpo2_c36; try dsimp only at hpo3_c36
  refine GX.callp (r := .tup [.agg [.int .u32 c36a.Own, .int .u32 c36a.Peer, .int .i64 c36a.Phase, .bool c36a.Leads, .int .u32 c36a.Seq, .ro 8 (c36a.Left.map THeader.c), .ro 8 (c36a.Got.map THeader.c), .int .i64 c36a.Last.MTU, .int .i64 c36a.Last.Options, .bool c36a.Last.Init, .bool c36a.Last.More, .bool c36a.Last.Master, .int .u32 c36a.Last.Seq, .ro 8 (c36a.Last.Heads.map THeader.c)], .agg [.int .i64 c36b.MTU, .int .i64 c36b.Options, .bool c36b.Init, .bool c36b.More, .bool c36b.Master, .int .u32 c36b.Seq, .ro 8 (c36b.Heads.map THeader.c)]]) rfl rfl rfl (f9_ok s0.Own s0.Peer s0.Seq s0.Heads (by ((try simp only [List.length_append, List.length_cons, List.length_nil, List.length_map, decide_eq_true_eq, decide_eq_false_iff_not] at *) <;> omega)) _ hc36) rfl rfl ?_
  refine GX.m rfl ?_
  refine GX.q (.agg [.int .u32 c36a.Own, .int .u32 c36a.Peer, .int .i64 c36a.Phase, .bool c36a.Leads, .int .u32 c36a.Seq, .ro 8 (c36a.Left.map THeader.c), .ro 8 (c36a.Got.map THeader.c), .int .i64 c36a.Last.MTU, .int .i64 c36a.Last.Options, .bool c36a.Last.Init, .bool c36a.Last.More, .bool c36a.Last.Master, .int .u32 c36a.Last.Seq, .ro 8 (c36a.Last.Heads.map THeader.c)]) ?_
  refine GX.q (.agg [.int .i64 c36b.MTU, .int .i64 c36b.Options, .bool c36b.Init, .bool c36b.More, .bool c36b.Master, .int .u32 c36b.Seq, .ro 8 (c36b.Heads.map THeader.c)]) ?_
  refine GX.step (v' := .ptr 1 0) (heap' := [(0, .box (TStart.c s0)), (1, .box [.int .u32 0, .int .u32 0, .int .i64 0, .bool false, .int .u32 0, .nils, .nils, .int .i64 0, .int .i64 0, .bool false, .bool false, .bool false, .int .u32 0, .nils])]) (next' := 2) rfl rfl rfl rfl rfl rfl rfl ?_
  refine GX.step (v' := .ptr 2 0) (heap' := [(0, .box (TStart.c s0)), (1, .box [.int .u32 0, .int .u32 0, .int .i64 0, .bool false, .int .u32 0, .nils, .nils, .int .i64 0, .int .i64 0, .bool false, .bool false, .bool false, .int .u32 0, .nils]), (2, .box [.int .i64 0, .int .i64 0, .bool false, .bool false, .bool false, .int .u32 0, .nils])]) (next' := 3) rfl rfl rfl rfl rfl rfl rfl ?_
  refine GX.step0 (heap' := [(0, .box (TStart.c s0)), (1, .box (TSession.c c36a)), (2, .box [.int .i64 0, .int .i64 0, .bool false, .bool false, .bool false, .int .u32 0, .nils])]) (next' := 3) rfl rfl rfl rfl rfl ?_
  refine GX.step0 (heap' := [(0, .box (TStart.c s0)), (1, .box (TSession.c c36a)), (2, .box (TDesc.c c36b))]) (next' := 3) rfl rfl rfl rfl rfl ?_
  refine GX.done ?_
  refine WK.sr mixed ?_
  refine GX.q (.ptr 0 0) ?_
  refine GX.q (.int .u32 s0.Own) ?_
  refine GX.q (.ptr 0 1) ?_
  refine GX.q (.int .u32 s0.Peer) ?_
  refine GX.q (.ptr 0 2) ?_
  refine GX.q (.int .u32 s0.Seq) ?_
  refine GX.q (.ptr 0 3) ?_
  refine GX.q (.ro 8 (s0.Heads.map THeader.c)) ?_
  generalize hc48 : F10_crossroadsref17_Open s0.Own s0.Peer s0.Seq s0.Heads = c48 at hR
  have hpo0_c48 := post10a s0.Own s0.Peer s0.Seq s0.Heads; rw [hc48] at hpo0_c48
  have hpo1_c48 := post10b s0.Own s0.Peer s0.Seq s0.Heads; rw [hc48] at hpo1_c48
  obtain ⟨c48a, c48b⟩ := c48; try dsimp only at hR; try dsimp only at hpo0_c48; try dsimp only at hpo1_c48
  refine GX.callp (r := .tup [.agg [.int .u32 c48a.Own, .int .u32 c48a.Peer, .int .i64 c48a.Phase, .bool c48a.Leads, .int .u32 c48a.Seq, .ro 8 (c48a.Left.map THeader.c), .ro 8 (c48a.Got.map THeader.c), .int .i64 c48a.Last.MTU, .int .i64 c48a.Last.Options, .bool c48a.Last.Init, .bool c48a.Last.More, .bool c48a.Last.Master, .int .u32 c48a.Last.Seq, .ro 8 (c48a.Last.Heads.map THeader.c)], .agg [.int .i64 c48b.MTU, .int .i64 c48b.Options, .bool c48b.Init, .bool c48b.More, .bool c48b.Master, .int .u32 c48b.Seq, .ro 8 (c48b.Heads.map THeader.c)]]) rfl rfl rfl (f10_ok s0.Own s0.Peer s0.Seq s0.Heads (by ((try simp only [List.length_append, List.length_cons, List.length_nil, List.length_map, decide_eq_true_eq, decide_eq_false_iff_not] at *) <;> omega)) _ hc48) rfl rfl ?_
  refine GX.m rfl ?_
  refine GX.q (.agg [.int .u32 c48a.Own, .int .u32 c48a.Peer, .int .i64 c48a.Phase, .bool c48a.Leads, .int .u32 c48a.Seq, .ro 8 (c48a.Left.map THeader.c), .ro 8 (c48a.Got.map THeader.c), .int .i64 c48a.Last.MTU, .int .i64 c48a.Last.Options, .bool c48a.Last.Init, .bool c48a.Last.More, .bool c48a.Last.Master, .int .u32 c48a.Last.Seq, .ro 8 (c48a.Last.Heads.map THeader.c)]) ?_
  refine GX.q (.agg [.int .i64 c48b.MTU, .int .i64 c48b.Options, .bool c48b.Init, .bool c48b.More, .bool c48b.Master, .int .u32 c48b.Seq, .ro 8 (c48b.Heads.map THeader.c)]) ?_
  refine GX.step (v' := .ptr 3 0) (heap' := [(0, .box (TStart.c s0)), (1, .box (TSession.c c36a)), (2, .box (TDesc.c c36b)), (3, .box [.int .u32 0, .int .u32 0, .int .i64 0, .bool false, .int .u32 0, .nils, .nils, .int .i64 0, .int .i64 0, .bool false, .bool false, .bool false, .int .u32 0, .nils])]) (next' := 4) rfl rfl rfl rfl rfl rfl rfl ?_
  refine GX.step (v' := .ptr 4 0) (heap' := [(0, .box (TStart.c s0)), (1, .box (TSession.c c36a)), (2, .box (TDesc.c c36b)), (3, .box [.int .u32 0, .int .u32 0, .int .i64 0, .bool false, .int .u32 0, .nils, .nils, .int .i64 0, .int .i64 0, .bool false, .bool false, .bool false, .int .u32 0, .nils]), (4, .box [.int .i64 0, .int .i64 0, .bool false, .bool false, .bool false, .int .u32 0, .nils])]) (next' := 5) rfl rfl rfl rfl rfl rfl rfl ?_
  refine GX.step0 (heap' := [(0, .box (TStart.c s0)), (1, .box (TSession.c c36a)), (2, .box (TDesc.c c36b)), (3, .box (TSession.c c48a)), (4, .box [.int .i64 0, .int .i64 0, .bool false, .bool false, .bool false, .int .u32 0, .nils])]) (next' := 5) rfl rfl rfl rfl rfl ?_
  refine GX.step0 (heap' := [(0, .box (TStart.c s0)), (1, .box (TSession.c c36a)), (2, .box (TDesc.c c36b)), (3, .box (TSession.c c48a)), (4, .box (TDesc.c c48b))]) (next' := 5) rfl rfl rfl rfl rfl ?_
  refine GX.done ?_
  iterate 2 refine WK.seq ?_
  refine WK.drawn mixed ?_
  refine RD.q (.agg (TDesc.c c36b)) ?_
  generalize hc52 : F12_crossroadslaw17_desc c36b = c52 at hR
  have hpo0_c52 := post12b c36b; rw [hc52] at hpo0_c52
  try dsimp only at hR
  refine RD.callp (r := .agg [.int .i64 c52.MTU, .int .i64 c52.Options, .bool c52.Init, .bool c52.More, .bool c52.Master, .int .u32 c52.Seq, .ro 8 (c52.Heads.map THeader.c)]) rfl rfl rfl (f12_ok c36b _ hc52) rfl rfl ?_
  refine RD.q (.agg (TDesc.c c48b)) ?_
  generalize hc54 : F11_crossroadsref13_Same c52 c48b = c54 at hR
  try dsimp only at hR
  refine RD.callp (r := .bool c54) rfl rfl rfl (f11_ok c52 c48b _ hc54) rfl rfl ?_
  refine RD.q (.bool (!c54)) ?_
  refine RD.m rfl ?_
  rcases bool_two (c54) with hb2 | hb2
  ·rw [hb2]; try simp only [hb2, bb] at hR
   iterate 5 refine RD.skip rfl rfl ?_
   refine RD.q (.bool true) ?_
   refine RD.done rfl ?_
   refine WK.condT rfl ?_
   refine WK.sr mixed ?_
   refine GX.m rfl ?_
   refine GX.done ?_
   refine WK.ret ?_
   subst hR
   exact RetQ.fr [] (.inr rfl) rfl rfl rfl rfl
  ·rw [hb2]; try simp only [hb2, bb] at hR
   refine RD.q (.agg (TSession.c c36a)) ?_
   generalize hc58 : F14_crossroadslaw17_plain c36a = c58 at hR
   have hpo0_c58 := post14 c36a; rw [hc58] at hpo0_c58
   try dsimp only at hR
   refine RD.callp (r := .agg [.int .u32 c58.Own, .int .u32 c58.Peer, .int .i64 c58.Phase, .bool c58.Leads, .int .u32 c58.Seq, .ro 8 (c58.Left.map THeader.c), .ro 8 (c58.Got.map THeader.c), .int .i64 c58.Last.MTU, .int .i64 c58.Last.Options, .bool c58.Last.Init, .bool c58.Last.More, .bool c58.Last.Master, .int .u32 c58.Last.Seq, .ro 8 (c58.Last.Heads.map THeader.c)]) rfl rfl rfl (f14_ok c36a _ hc58) rfl rfl ?_
   refine RD.q (.agg (TSession.c c48a)) ?_
   generalize hc60 : F13_crossroadsref17_Same c58 c48a = c60 at hR
   try dsimp only at hR
   refine RD.callp (r := .bool c60) rfl rfl rfl (f13_ok c58 c48a _ hc60) rfl rfl ?_
   iterate 2 refine RD.q (.bool (!c60)) ?_
   refine RD.done rfl ?_
   rcases bool_two (c60) with hb3 | hb3
   ·rw [hb3]; try simp only [hb3, bb] at hR
    refine WK.condT rfl ?_
    refine WK.sr mixed ?_
    refine GX.m rfl ?_
    refine GX.done ?_
    refine WK.ret ?_
    subst hR
    exact RetQ.fr [] (.inr rfl) rfl rfl rfl rfl
   ·rw [hb3]; try simp only [hb3, bb] at hR
    refine WK.condF rfl ?_
    refine WK.skip ?_
    refine WK.seq ?_
    refine WK.sr mixed ?_
    refine GX.m rfl ?_
    refine GX.done ?_
    refine WK.len (t := 1) rfl (by simp) (fun hlen_15 => ?_)
    rw [List.length_map] at hlen_15
    generalize hZ_15 : F3_crossroadslaw17_ExchPlays_l1 c36a c48a 0 l1 = Z_15 at hR
    refine WK.forK (fun k s => ∃ (i9 : Nat) (a5 : TSession) (b7 : TSession), i9 ≤ l1.length ∧ k = l1.length - i9 ∧ a5.Left.length ≤ 120 ∧ a5.Got.length ≤ 120 * i9 ∧ b7.Left.length ≤ 120 ∧ b7.Got.length ≤ 120 * i9 ∧ F3_crossroadslaw17_ExchPlays_l1 a5 b7 i9 (l1.drop i9) = Z_15 ∧ s = ⟨[(1, .ro 7 (l1.map TDesc.c)), (5, .ptr 0 0), (7, .ptr 1 0), (9, .int .i64 (i9 : Int))], [(0, .box (TSession.c a5)), (1, .box (TSession.c b7))], 2⟩) l1.length ⟨⟨[(1, .ro 7 (l1.map TDesc.c)), (5, .ptr 0 0), (7, .ptr 1 0), (9, .int .i64 (0 : Int))], [(0, .box (TSession.c c36a)), (1, .box (TSession.c c48a))], 2⟩, Conv.keep [1, 3] [] [1, 5, 7, 9] rfl rfl (viewE_cons rfl rfl (viewE_cons rfl rfl (viewE_cons rfl rfl (viewE_cons rfl rfl viewE_nil)))) rfl rfl, 0, c36a, c48a, (by omega), rfl, (by ((try simp only [List.length_append, List.length_cons, List.length_nil, decide_eq_true_eq, decide_eq_false_iff_not] at *) <;> first | omega | (rw [wrap64_of (by omega) (by omega)]; omega))), (by omega), (by ((try simp only [List.length_append, List.length_cons, List.length_nil, decide_eq_true_eq, decide_eq_false_iff_not] at *) <;> first | omega | (rw [wrap64_of (by omega) (by omega)]; omega))), (by omega), hZ_15, rfl⟩ ?_
    rintro _ _ ⟨i9, a5, b7, hi_15, rfl, hinv15_c0, hinv15_c1, hinv15_c2, hinv15_c3, hL_15, rfl⟩ again_15 out_15 Q_15 hagain_15 hout_15 hQ_15
    refine WK.seq ?_
    refine WK.sr mixed ?_
    iterate 2 refine GX.m rfl ?_
    refine GX.pure (v' := .int .i64 (l1.length : Int)) rfl rfl rfl rfl (len_map _ _) ?_
    refine GX.q (.bool (decide ((i9 : Int) < (l1.length : Int)))) ?_
    refine GX.m rfl ?_
    rcases bool_two (decide ((i9 : Int) < (l1.length : Int))) with hb16 | hb16
    ·rw [hb16]
     rw [drop_end hb16, F3_crossroadslaw17_ExchPlays_l1] at hL_15
     iterate 2 refine GX.skip rfl rfl ?_
     refine GX.q (.bool false) ?_
     refine GX.done ?_
     refine WK.condF rfl ?_
     refine WK.exit ?_
     refine QF.exit (hout_15 _ ?_)
     subst hL_15
     try dsimp only [cond_true, cond_false] at hR
     refine WK.sr mixed ?_
     generalize hc156 : F8_crossroadslaw17_alive = c156 at hR
     try dsimp only at hR
     refine GX.callp (r := .bool c156) rfl rfl rfl (f8_ok  _ hc156) rfl rfl ?_
     refine GX.m rfl ?_
     refine GX.done ?_
     refine WK.ret ?_
     subst hR
     exact RetQ.fr [] (.inr rfl) rfl rfl rfl rfl
    ·rw [hb16]
     obtain ⟨x9, hx15, hd15, hlt15⟩ := drop_more hb16
     rw [hd15, F3_crossroadslaw17_ExchPlays_l1] at hL_15
     refine GX.m rfl ?_
     iterate 2 refine GX.q (.bool (decide ((i9 : Int) < 120))) ?_
     refine GX.done ?_
     rcases bool_two (decide ((i9 : Int) < 120)) with hb17 | hb17
     ·rw [hb17]; try simp only [hb17, bb] at hL_15
      refine WK.condF rfl ?_
      refine WK.exit ?_
      refine QF.exit (hout_15 _ ?_)
      subst hL_15
      try dsimp only [cond_true, cond_false] at hR
      refine WK.sr mixed ?_
      generalize hc156 : F8_crossroadslaw17_alive = c156 at hR
      try dsimp only at hR
      refine GX.callp (r := .bool c156) rfl rfl rfl (f8_ok  _ hc156) rfl rfl ?_
      refine GX.m rfl ?_
      refine GX.done ?_
      refine WK.ret ?_
      subst hR
      exact RetQ.fr [] (.inr rfl) rfl rfl rfl rfl
     ·rw [hb17]; try simp only [hb17, bb] at hL_15
      refine WK.condT rfl ?_
      refine WK.skip ?_
      refine WK.seq ?_
      refine WK.blockK (fun _ hK18 => ?_)
      refine WK.seq ?_
      refine WK.sr mixed ?_
      iterate 2 refine GX.m rfl ?_
      refine GX.idxT (c := TDesc.c) (x := x9) rfl rfl rfl (Int.natCast_nonneg _) hx15 ?_
      refine GX.q (.rptr [.ro 8 (x9.Heads.map THeader.c)]) ?_
      refine GX.q (.ro 8 (x9.Heads.map THeader.c)) ?_
      refine GX.pure (v' := .int .i64 (x9.Heads.length : Int)) rfl rfl rfl rfl (len_map _ _) ?_
      refine GX.q (.bool (decide (120 < (x9.Heads.length : Int)))) ?_
      refine GX.done ?_
      rcases bool_two (decide (120 < (x9.Heads.length : Int))) with hb19 | hb19
      ·rw [hb19]; try simp only [hb19, bb] at hL_15
       refine WK.condF rfl ?_
       refine WK.skip ?_
       refine WK.seq ?_
       refine WK.drawn mixed ?_
       refine RD.q (.agg (TSession.c a5)) ?_
       iterate 2 refine RD.m rfl ?_
       refine RD.idxT (c := TDesc.c) (x := x9) rfl rfl rfl (Int.natCast_nonneg _) hx15 ?_
       refine RD.q (.agg (TDesc.c x9)) ?_
       generalize hc86 : F15_exch_Hear a5 x9 = c86 at hL_15
       have hpo0_c86 := post15a a5 x9; rw [hc86] at hpo0_c86
       have hpo1_c86 := post15b a5 x9; rw [hc86] at hpo1_c86
       have hpo2_c86 := post15c a5 x9; rw [hc86] at hpo2_c86
       obtain ⟨c86a, c86b, c86c, c86d⟩ := c86; try dsimp only at hL_15; try dsimp only at hpo0_c86; try dsimp only at hpo1_c86; try dsimp only at hpo2_c86
       refine RD.callp (r := .tup [.agg [.int .u32 c86a.Own, .int .u32 c86a.Peer, .int .i64 c86a.Phase, .bool c86a.Leads, .int .u32 c86a.Seq, .ro 8 (c86a.Left.map THeader.c), .ro 8 (c86a.Got.map THeader.c), .int .i64 c86a.Last.MTU, .int .i64 c86a.Last.Options, .bool c86a.Last.Init, .bool c86a.Last.More, .bool c86a.Last.Master, .int .u32 c86a.Last.Seq, .ro 8 (c86a.Last.Heads.map THeader.c)], .agg [.int .i64 c86b.MTU, .int .i64 c86b.Options, .bool c86b.Init, .bool c86b.More, .bool c86b.Master, .int .u32 c86b.Seq, .ro 8 (c86b.Heads.map THeader.c)], .bool c86c, .int .i64 c86d]) rfl rfl rfl (f15_ok a5 x9 (by omega) (by ((try simp only [List.length_append, List.length_cons, List.length_nil, List.length_map, decide_eq_true_eq, decide_eq_false_iff_not] at *) <;> omega)) (by ((try simp only [List.length_append, List.length_cons, List.length_nil, List.length_map, decide_eq_true_eq, decide_eq_false_iff_not] at *) <;> omega)) _ hc86) rfl rfl ?_
       refine RD.m rfl ?_
       refine RD.q (.agg [.int .u32 c86a.Own, .int .u32 c86a.Peer, .int .i64 c86a.Phase, .bool c86a.Leads, .int .u32 c86a.Seq, .ro 8 (c86a.Left.map THeader.c), .ro 8 (c86a.Got.map THeader.c), .int .i64 c86a.Last.MTU, .int .i64 c86a.Last.Options, .bool c86a.Last.Init, .bool c86a.Last.More, .bool c86a.Last.Master, .int .u32 c86a.Last.Seq, .ro 8 (c86a.Last.Heads.map THeader.c)]) ?_
       refine RD.q (.agg [.int .i64 c86b.MTU, .int .i64 c86b.Options, .bool c86b.Init, .bool c86b.More, .bool c86b.Master, .int .u32 c86b.Seq, .ro 8 (c86b.Heads.map THeader.c)]) ?_
       refine RD.q (.bool c86c) ?_
       refine RD.q (.int .i64 c86d) ?_
       refine RD.step (v' := .ptr 2 0) (heap' := [(0, .box (TSession.c a5)), (1, .box (TSession.c b7)), (2, .box [.int .u32 0, .int .u32 0, .int .i64 0, .bool false, .int .u32 0, .nils, .nils, .int .i64 0, .int .i64 0, .bool false, .bool false, .bool false, .int .u32 0, .nils])]) (next' := 3) rfl rfl rfl rfl rfl rfl rfl ?_
       refine RD.step (v' := .ptr 3 0) (heap' := [(0, .box (TSession.c a5)), (1, .box (TSession.c b7)), (2, .box [.int .u32 0, .int .u32 0, .int .i64 0, .bool false, .int .u32 0, .nils, .nils, .int .i64 0, .int .i64 0, .bool false, .bool false, .bool false, .int .u32 0, .nils]), (3, .box [.int .i64 0, .int .i64 0, .bool false, .bool false, .bool false, .int .u32 0, .nils])]) (next' := 4) rfl rfl rfl rfl rfl rfl rfl ?_
       refine RD.step0 (heap' := [(0, .box (TSession.c a5)), (1, .box (TSession.c b7)), (2, .box (TSession.c c86a)), (3, .box [.int .i64 0, .int .i64 0, .bool false, .bool false, .bool false, .int .u32 0, .nils])]) (next' := 4) rfl rfl rfl rfl rfl ?_
       refine RD.step0 (heap' := [(0, .box (TSession.c a5)), (1, .box (TSession.c b7)), (2, .box (TSession.c c86a)), (3, .box (TDesc.c c86b))]) (next' := 4) rfl rfl rfl rfl rfl ?_
       iterate 2 refine RD.m rfl ?_
       refine RD.done rfl ?_
       refine WK.seq ?_
       refine WK.drawn mixed ?_
       refine RD.q (.agg (TSession.c b7)) ?_
       iterate 2 refine RD.m rfl ?_
       refine RD.idxT (c := TDesc.c) (x := x9) rfl rfl rfl (Int.natCast_nonneg _) hx15 ?_
       refine RD.q (.agg (TDesc.c x9)) ?_
       generalize hc97 : F12_crossroadslaw17_desc x9 = c97 at hL_15
       have hpo0_c97 := post12b x9; rw [hc97] at hpo0_c97
       try dsimp only at hL_15
       refine RD.callp (r := .agg [.int .i64 c97.MTU, .int .i64 c97.Options, .bool c97.Init, .bool c97.More, .bool c97.Master, .int .u32 c97.Seq, .ro 8 (c97.Heads.map THeader.c)]) rfl rfl rfl (f12_ok x9 _ hc97) rfl rfl ?_
       generalize hc98 : F16_crossroadsref17_Hear b7 c97 = c98 at hL_15
       have hpo0_c98 := post16a b7 c97; rw [hc98] at hpo0_c98
       have hpo1_c98 := post16b b7 c97; rw [hc98] at hpo1_c98
       obtain ⟨c98a, c98b, c98c, c98d⟩ := c98; try dsimp only at hL_15; try dsimp only at hpo0_c98; try dsimp only at hpo1_c98
       refine RD.callp (r := .tup [.agg [.int .u32 c98a.Own, .int .u32 c98a.Peer, .int .i64 c98a.Phase, .bool c98a.Leads, .int .u32 c98a.Seq, .ro 8 (c98a.Left.map THeader.c), .ro 8 (c98a.Got.map THeader.c), .int .i64 c98a.Last.MTU, .int .i64 c98a.Last.Options, .bool c98a.Last.Init, .bool c98a.Last.More, .bool c98a.Last.Master, .int .u32 c98a.Last.Seq, .ro 8 (c98a.Last.Heads.map THeader.c)], .agg [.int .i64 c98b.MTU, .int .i64 c98b.Options, .bool c98b.Init, .bool c98b.More, .bool c98b.Master, .int .u32 c98b.Seq, .ro 8 (c98b.Heads.map THeader.c)], .bool c98c, .int .i64 c98d]) rfl rfl rfl (f16_ok b7 c97 (by omega) (by ((try simp only [List.length_append, List.length_cons, List.length_nil, List.length_map, decide_eq_true_eq, decide_eq_false_iff_not] at *) <;> omega)) (by ((try simp only [List.length_append, List.length_cons, List.length_nil, List.length_map, decide_eq_true_eq, decide_eq_false_iff_not] at *) <;> omega)) _ hc98) rfl rfl ?_
       refine RD.m rfl ?_
       refine RD.q (.agg [.int .u32 c98a.Own, .int .u32 c98a.Peer, .int .i64 c98a.Phase, .bool c98a.Leads, .int .u32 c98a.Seq, .ro 8 (c98a.Left.map THeader.c), .ro 8 (c98a.Got.map THeader.c), .int .i64 c98a.Last.MTU, .int .i64 c98a.Last.Options, .bool c98a.Last.Init, .bool c98a.Last.More, .bool c98a.Last.Master, .int .u32 c98a.Last.Seq, .ro 8 (c98a.Last.Heads.map THeader.c)]) ?_
       refine RD.q (.agg [.int .i64 c98b.MTU, .int .i64 c98b.Options, .bool c98b.Init, .bool c98b.More, .bool c98b.Master, .int .u32 c98b.Seq, .ro 8 (c98b.Heads.map THeader.c)]) ?_
       refine RD.q (.bool c98c) ?_
       refine RD.q (.int .i64 c98d) ?_
       refine RD.step (v' := .ptr 4 0) (heap' := [(0, .box (TSession.c a5)), (1, .box (TSession.c b7)), (2, .box (TSession.c c86a)), (3, .box (TDesc.c c86b)), (4, .box [.int .u32 0, .int .u32 0, .int .i64 0, .bool false, .int .u32 0, .nils, .nils, .int .i64 0, .int .i64 0, .bool false, .bool false, .bool false, .int .u32 0, .nils])]) (next' := 5) rfl rfl rfl rfl rfl rfl rfl ?_
       refine RD.step (v' := .ptr 5 0) (heap' := [(0, .box (TSession.c a5)), (1, .box (TSession.c b7)), (2, .box (TSession.c c86a)), (3, .box (TDesc.c c86b)), (4, .box [.int .u32 0, .int .u32 0, .int .i64 0, .bool false, .int .u32 0, .nils, .nils, .int .i64 0, .int .i64 0, .bool false, .bool false, .bool false, .int .u32 0, .nils]), (5, .box [.int .i64 0, .int .i64 0, .bool false, .bool false, .bool false, .int .u32 0, .nils])]) (next' := 6) rfl rfl rfl rfl rfl rfl rfl ?_
       refine RD.step0 (heap' := [(0, .box (TSession.c a5)), (1, .box (TSession.c b7)), (2, .box (TSession.c c86a)), (3, .box (TDesc.c c86b)), (4, .box (TSession.c c98a)), (5, .box [.int .i64 0, .int .i64 0, .bool false, .bool false, .bool false, .int .u32 0, .nils])]) (next' := 6) rfl rfl rfl rfl rfl ?_
       refine RD.step0 (heap' := [(0, .box (TSession.c a5)), (1, .box (TSession.c b7)), (2, .box (TSession.c c86a)), (3, .box (TDesc.c c86b)), (4, .box (TSession.c c98a)), (5, .box (TDesc.c c98b))]) (next' := 6) rfl rfl rfl rfl rfl ?_
       iterate 2 refine RD.m rfl ?_
       refine RD.done rfl ?_
       refine WK.sr mixed ?_
       refine GX.q (.agg (TSession.c c86a)) ?_
       generalize hc105 : F17_exch_Again c86a = c105 at hL_15
       obtain ⟨c105a, c105b⟩ := c105; try dsimp only at hL_15
       refine GX.callp (r := .tup [.agg [.int .i64 c105a.MTU, .int .i64 c105a.Options, .bool c105a.Init, .bool c105a.More, .bool c105a.Master, .int .u32 c105a.Seq, .ro 8 (c105a.Heads.map THeader.c)], .bool c105b]) rfl rfl rfl (f17_ok c86a _ hc105) rfl rfl ?_
       refine GX.m rfl ?_
       refine GX.q (.agg [.int .i64 c105a.MTU, .int .i64 c105a.Options, .bool c105a.Init, .bool c105a.More, .bool c105a.Master, .int .u32 c105a.Seq, .ro 8 (c105a.Heads.map THeader.c)]) ?_
       refine GX.q (.bool c105b) ?_
       refine GX.step (v' := .ptr 6 0) (heap' := [(0, .box (TSession.c a5)), (1, .box (TSession.c b7)), (2, .box (TSession.c c86a)), (3, .box (TDesc.c c86b)), (4, .box (TSession.c c98a)), (5, .box (TDesc.c c98b)), (6, .box [.int .i64 0, .int .i64 0, .bool false, .bool false, .bool false, .int .u32 0, .nils])]) (next' := 7) rfl rfl rfl rfl rfl rfl rfl ?_
       refine GX.step0 (heap' := [(0, .box (TSession.c a5)), (1, .box (TSession.c b7)), (2, .box (TSession.c c86a)), (3, .box (TDesc.c c86b)), (4, .box (TSession.c c98a)), (5, .box (TDesc.c c98b)), (6, .box (TDesc.c c105a))]) (next' := 7) rfl rfl rfl rfl rfl ?_
       refine GX.m rfl ?_
       refine GX.done ?_
       refine WK.sr mixed ?_
       refine GX.q (.agg (TSession.c c98a)) ?_
       generalize hc110 : F18_crossroadsref17_Again c98a = c110 at hL_15
       obtain ⟨c110a, c110b⟩ := c110; try dsimp only at hL_15
       refine GX.callp (r := .tup [.agg [.int .i64 c110a.MTU, .int .i64 c110a.Options, .bool c110a.Init, .bool c110a.More, .bool c110a.Master, .int .u32 c110a.Seq, .ro 8 (c110a.Heads.map THeader.c)], .bool c110b]) rfl rfl rfl (f18_ok c98a _ hc110) rfl rfl ?_
       refine GX.m rfl ?_
       refine GX.q (.agg [.int .i64 c110a.MTU, .int .i64 c110a.Options, .bool c110a.Init, .bool c110a.More, .bool c110a.Master, .int .u32 c110a.Seq, .ro 8 (c110a.Heads.map THeader.c)]) ?_
       refine GX.q (.bool c110b) ?_
       refine GX.step (v' := .ptr 7 0) (heap' := [(0, .box (TSession.c a5)), (1, .box (TSession.c b7)), (2, .box (TSession.c c86a)), (3, .box (TDesc.c c86b)), (4, .box (TSession.c c98a)), (5, .box (TDesc.c c98b)), (6, .box (TDesc.c c105a)), (7, .box [.int .i64 0, .int .i64 0, .bool false, .bool false, .bool false, .int .u32 0, .nils])]) (next' := 8) rfl rfl rfl rfl rfl rfl rfl ?_
       refine GX.step0 (heap' := [(0, .box (TSession.c a5)), (1, .box (TSession.c b7)), (2, .box (TSession.c c86a)), (3, .box (TDesc.c c86b)), (4, .box (TSession.c c98a)), (5, .box (TDesc.c c98b)), (6, .box (TDesc.c c105a)), (7, .box (TDesc.c c110a))]) (next' := 8) rfl rfl rfl rfl rfl ?_
       refine GX.m rfl ?_
       refine GX.done ?_
       iterate 2 refine WK.seq ?_
       refine WK.drawn mixed ?_
       refine RD.q (.agg (TSession.c c86a)) ?_
       generalize hc114 : F14_crossroadslaw17_plain c86a = c114 at hL_15
       have hpo0_c114 := post14 c86a; rw [hc114] at hpo0_c114
       try dsimp only at hL_15
       refine RD.callp (r := .agg [.int .u32 c114.Own, .int .u32 c114.Peer, .int .i64 c114.Phase, .bool c114.Leads, .int .u32 c114.Seq, .ro 8 (c114.Left.map THeader.c), .ro 8 (c114.Got.map THeader.c), .int .i64 c114.Last.MTU, .int .i64 c114.Last.Options, .bool c114.Last.Init, .bool c114.Last.More, .bool c114.Last.Master, .int .u32 c114.Last.Seq, .ro 8 (c114.Last.Heads.map THeader.c)]) rfl rfl rfl (f14_ok c86a _ hc114) rfl rfl ?_
       refine RD.q (.agg (TSession.c c98a)) ?_
       generalize hc116 : F13_crossroadsref17_Same c114 c98a = c116 at hL_15
       try dsimp only at hL_15
       refine RD.callp (r := .bool c116) rfl rfl rfl (f13_ok c114 c98a _ hc116) rfl rfl ?_
       refine RD.q (.bool (!c116)) ?_
       refine RD.m rfl ?_
       rcases bool_two (c116) with hb20 | hb20
       ·rw [hb20]; try simp only [hb20, bb] at hL_15
        iterate 5 refine RD.skip rfl rfl ?_
        refine RD.q (.bool true) ?_
        refine RD.m rfl ?_
        iterate 3 refine RD.skip rfl rfl ?_
        refine RD.q (.bool true) ?_
        refine RD.m rfl ?_
        iterate 3 refine RD.skip rfl rfl ?_
        refine RD.q (.bool true) ?_
        refine RD.m rfl ?_
        iterate 5 refine RD.skip rfl rfl ?_
        refine RD.q (.bool true) ?_
        refine RD.m rfl ?_
        iterate 3 refine RD.skip rfl rfl ?_
        refine RD.q (.bool true) ?_
        refine RD.m rfl ?_
        iterate 5 refine RD.skip rfl rfl ?_
        refine RD.q (.bool true) ?_
        refine RD.doneB [0, 1, 0, 7, 15, 31, 63, 127, 63, 511, 1023, 2047, 4095, 8191, 8191, 32767, 65535, 131071, 262143, 262143, 1048575, 2097151, 4194303, 8388607, 16777215, 8388607, 67108863, 134217727, 268435455, 536870911, 1073741823, 1073741823, 4294967295, 8589934591, 17179869183, 34359738367, 68719476735, 34359738367, 274877906943, 549755813887, 1099511627775] (by kernel_rfl) (by kernel_rfl) (by kernel_rfl) ?_
        refine WK.condT rfl ?_
        refine WK.sr mixed ?_
        refine GX.m rfl ?_
        refine GX.done ?_
        refine WK.ret ?_
        refine QF.ret ?_
        refine QF.ret (hQ_15 _ _ ?_)
        subst hL_15
        subst hR
        exact RetQ.fr [] (.inr rfl) rfl rfl rfl rfl
       ·rw [hb20]; try simp only [hb20, bb] at hL_15
        refine RD.q (.agg (TDesc.c c86b)) ?_
        generalize hc120 : F12_crossroadslaw17_desc c86b = c120 at hL_15
        have hpo0_c120 := post12b c86b; rw [hc120] at hpo0_c120
        try dsimp only at hL_15
        refine RD.callp (r := .agg [.int .i64 c120.MTU, .int .i64 c120.Options, .bool c120.Init, .bool c120.More, .bool c120.Master, .int .u32 c120.Seq, .ro 8 (c120.Heads.map THeader.c)]) rfl rfl rfl (f12_ok c86b _ hc120) rfl rfl ?_
        refine RD.q (.agg (TDesc.c c98b)) ?_
        generalize hc122 : F11_crossroadsref13_Same c120 c98b = c122 at hL_15
        try dsimp only at hL_15
        refine RD.callp (r := .bool c122) rfl rfl rfl (f11_ok c120 c98b _ hc122) rfl rfl ?_
        iterate 2 refine RD.q (.bool (!c122)) ?_
        refine RD.m rfl ?_
        rcases bool_two (c122) with hb21 | hb21
        ·rw [hb21]; try simp only [hb21, bb] at hL_15
         iterate 3 refine RD.skip rfl rfl ?_
         refine RD.q (.bool true) ?_
         refine RD.m rfl ?_
         iterate 3 refine RD.skip rfl rfl ?_
         refine RD.q (.bool true) ?_
         refine RD.m rfl ?_
         iterate 5 refine RD.skip rfl rfl ?_
         refine RD.q (.bool true) ?_
         refine RD.m rfl ?_
         iterate 3 refine RD.skip rfl rfl ?_
         refine RD.q (.bool true) ?_
         refine RD.m rfl ?_
         iterate 5 refine RD.skip rfl rfl ?_
         refine RD.q (.bool true) ?_
         refine RD.doneB [0, 1, 0, 7, 15, 31, 63, 127, 63, 511, 1023, 2047, 4095, 8191, 8191, 32767, 65535, 131071, 262143, 262143, 1048575, 2097151, 4194303, 8388607, 16777215, 8388607, 67108863, 134217727, 268435455, 536870911, 1073741823, 1073741823, 4294967295, 8589934591, 17179869183, 34359738367, 68719476735, 34359738367, 274877906943, 549755813887, 1099511627775] (by kernel_rfl) (by kernel_rfl) (by kernel_rfl) ?_
         refine WK.condT rfl ?_
         refine WK.sr mixed ?_
         refine GX.m rfl ?_
         refine GX.done ?_
         refine WK.ret ?_
         refine QF.ret ?_
         refine QF.ret (hQ_15 _ _ ?_)
         subst hL_15
         subst hR
         exact RetQ.fr [] (.inr rfl) rfl rfl rfl rfl
        ·rw [hb21]; try simp only [hb21, bb] at hL_15
         iterate 2 refine RD.m rfl ?_
         iterate 2 refine RD.q (.bool (!(c86c == c98c))) ?_
         refine RD.m rfl ?_
         rcases bool_two (c86c == c98c) with hb22 | hb22
         ·rw [hb22]; try simp only [hb22, bb] at hL_15
          iterate 3 refine RD.skip rfl rfl ?_
          refine RD.q (.bool true) ?_
          refine RD.m rfl ?_
          iterate 5 refine RD.skip rfl rfl ?_
          refine RD.q (.bool true) ?_
          refine RD.m rfl ?_
          iterate 3 refine RD.skip rfl rfl ?_
          refine RD.q (.bool true) ?_
          refine RD.m rfl ?_
          iterate 5 refine RD.skip rfl rfl ?_
          refine RD.q (.bool true) ?_
          refine RD.doneB [0, 1, 0, 7, 15, 31, 63, 127, 63, 511, 1023, 2047, 4095, 8191, 8191, 32767, 65535, 131071, 262143, 262143, 1048575, 2097151, 4194303, 8388607, 16777215, 8388607, 67108863, 134217727, 268435455, 536870911, 1073741823, 1073741823, 4294967295, 8589934591, 17179869183, 34359738367, 68719476735, 34359738367, 274877906943, 549755813887, 1099511627775] (by kernel_rfl) (by kernel_rfl) (by kernel_rfl) ?_
          refine WK.condT rfl ?_
          refine WK.sr mixed ?_
          refine GX.m rfl ?_
          refine GX.done ?_
          refine WK.ret ?_
          refine QF.ret ?_
          refine QF.ret (hQ_15 _ _ ?_)
          subst hL_15
          subst hR
          exact RetQ.fr [] (.inr rfl) rfl rfl rfl rfl
         ·rw [hb22]; try simp only [hb22, bb] at hL_15
          iterate 2 refine RD.m rfl ?_
          iterate 2 refine RD.q (.bool (!decide (c86d = c98d))) ?_
          refine RD.m rfl ?_
          rcases bool_two (decide (c86d = c98d)) with hb23 | hb23
          ·rw [hb23]; try simp only [hb23, bb] at hL_15
           iterate 5 refine RD.skip rfl rfl ?_
           refine RD.q (.bool true) ?_
           refine RD.m rfl ?_
           iterate 3 refine RD.skip rfl rfl ?_
           refine RD.q (.bool true) ?_
           refine RD.m rfl ?_
           iterate 5 refine RD.skip rfl rfl ?_
           refine RD.q (.bool true) ?_
           refine RD.doneB [0, 1, 0, 7, 15, 31, 63, 127, 63, 511, 1023, 2047, 4095, 8191, 8191, 32767, 65535, 131071, 262143, 262143, 1048575, 2097151, 4194303, 8388607, 16777215, 8388607, 67108863, 134217727, 268435455, 536870911, 1073741823, 1073741823, 4294967295, 8589934591, 17179869183, 34359738367, 68719476735, 34359738367, 274877906943, 549755813887, 1099511627775] (by kernel_rfl) (by kernel_rfl) (by kernel_rfl) ?_
           refine WK.condT rfl ?_
           refine WK.sr mixed ?_
           refine GX.m rfl ?_
           refine GX.done ?_
           refine WK.ret ?_
           refine QF.ret ?_
           refine QF.ret (hQ_15 _ _ ?_)
           subst hL_15
           subst hR
           exact RetQ.fr [] (.inr rfl) rfl rfl rfl rfl
          ·rw [hb23]; try simp only [hb23, bb] at hL_15
           refine RD.q (.agg (TDesc.c c105a)) ?_
           generalize hc137 : F12_crossroadslaw17_desc c105a = c137 at hL_15
           have hpo0_c137 := post12b c105a; rw [hc137] at hpo0_c137
           try dsimp only at hL_15
           refine RD.callp (r := .agg [.int .i64 c137.MTU, .int .i64 c137.Options, .bool c137.Init, .bool c137.More, .bool c137.Master, .int .u32 c137.Seq, .ro 8 (c137.Heads.map THeader.c)]) rfl rfl rfl (f12_ok c105a _ hc137) rfl rfl ?_
           refine RD.q (.agg (TDesc.c c110a)) ?_
           generalize hc139 : F11_crossroadsref13_Same c137 c110a = c139 at hL_15
           try dsimp only at hL_15
           refine RD.callp (r := .bool c139) rfl rfl rfl (f11_ok c137 c110a _ hc139) rfl rfl ?_
           iterate 2 refine RD.q (.bool (!c139)) ?_
           refine RD.m rfl ?_
           rcases bool_two (c139) with hb24 | hb24
           ·rw [hb24]; try simp only [hb24, bb] at hL_15
            iterate 3 refine RD.skip rfl rfl ?_
            refine RD.q (.bool true) ?_
            refine RD.m rfl ?_
            iterate 5 refine RD.skip rfl rfl ?_
            refine RD.q (.bool true) ?_
            refine RD.doneB [0, 1, 0, 7, 15, 31, 63, 127, 63, 511, 1023, 2047, 4095, 8191, 8191, 32767, 65535, 131071, 262143, 262143, 1048575, 2097151, 4194303, 8388607, 16777215, 8388607, 67108863, 134217727, 268435455, 536870911, 1073741823, 1073741823, 4294967295, 8589934591, 17179869183, 34359738367, 68719476735, 34359738367, 274877906943, 549755813887, 1099511627775] (by kernel_rfl) (by kernel_rfl) (by kernel_rfl) ?_
            refine WK.condT rfl ?_
            refine WK.sr mixed ?_
            refine GX.m rfl ?_
            refine GX.done ?_
            refine WK.ret ?_
            refine QF.ret ?_
            refine QF.ret (hQ_15 _ _ ?_)
            subst hL_15
            subst hR
            exact RetQ.fr [] (.inr rfl) rfl rfl rfl rfl
           ·rw [hb24]; try simp only [hb24, bb] at hL_15
            iterate 2 refine RD.m rfl ?_
            iterate 2 refine RD.q (.bool (!(c105b == c110b))) ?_
            refine RD.m rfl ?_
            rcases bool_two (c105b == c110b) with hb25 | hb25
            ·rw [hb25]; try simp only [hb25, bb] at hL_15
             iterate 5 refine RD.skip rfl rfl ?_
             refine RD.q (.bool true) ?_
             refine RD.doneB [0, 1, 0, 7, 15, 31, 63, 127, 63, 511, 1023, 2047, 4095, 8191, 8191, 32767, 65535, 131071, 262143, 262143, 1048575, 2097151, 4194303, 8388607, 16777215, 8388607, 67108863, 134217727, 268435455, 536870911, 1073741823, 1073741823, 4294967295, 8589934591, 17179869183, 34359738367, 68719476735, 34359738367, 274877906943, 549755813887, 1099511627775] (by kernel_rfl) (by kernel_rfl) (by kernel_rfl) ?_
             refine WK.condT rfl ?_
             refine WK.sr mixed ?_
             refine GX.m rfl ?_
             refine GX.done ?_
             refine WK.ret ?_
             refine QF.ret ?_
             refine QF.ret (hQ_15 _ _ ?_)
             subst hL_15
             subst hR
             exact RetQ.fr [] (.inr rfl) rfl rfl rfl rfl
            ·rw [hb25]; try simp only [hb25, bb] at hL_15
             refine RD.q (.agg (TSession.c a5)) ?_
             generalize hc149 : F14_crossroadslaw17_plain a5 = c149 at hL_15
             have hpo0_c149 := post14 a5; rw [hc149] at hpo0_c149
             try dsimp only at hL_15
             refine RD.callp (r := .agg [.int .u32 c149.Own, .int .u32 c149.Peer, .int .i64 c149.Phase, .bool c149.Leads, .int .u32 c149.Seq, .ro 8 (c149.Left.map THeader.c), .ro 8 (c149.Got.map THeader.c), .int .i64 c149.Last.MTU, .int .i64 c149.Last.Options, .bool c149.Last.Init, .bool c149.Last.More, .bool c149.Last.Master, .int .u32 c149.Last.Seq, .ro 8 (c149.Last.Heads.map THeader.c)]) rfl rfl rfl (f14_ok a5 _ hc149) rfl rfl ?_
             refine RD.q (.agg (TSession.c b7)) ?_
             generalize hc151 : F13_crossroadsref17_Same c149 b7 = c151 at hL_15
             try dsimp only at hL_15
             refine RD.callp (r := .bool c151) rfl rfl rfl (f13_ok c149 b7 _ hc151) rfl rfl ?_
             iterate 2 refine RD.q (.bool (!c151)) ?_
             refine RD.doneB [0, 1, 0, 7, 15, 31, 63, 127, 63, 511, 1023, 2047, 4095, 8191, 8191, 32767, 65535, 131071, 262143, 262143, 1048575, 2097151, 4194303, 8388607, 16777215, 8388607, 67108863, 134217727, 268435455, 536870911, 1073741823, 1073741823, 4294967295, 8589934591, 17179869183, 34359738367, 68719476735, 34359738367, 274877906943, 549755813887, 1099511627775] (by kernel_rfl) (by kernel_rfl) (by kernel_rfl) ?_
             rcases bool_two (c151) with hb26 | hb26
             ·rw [hb26]; try simp only [hb26, bb] at hL_15
              refine WK.condT rfl ?_
              refine WK.sr mixed ?_
              refine GX.m rfl ?_
              refine GX.done ?_
              refine WK.ret ?_
              refine QF.ret ?_
              refine QF.ret (hQ_15 _ _ ?_)
              subst hL_15
              subst hR
              exact RetQ.fr [] (.inr rfl) rfl rfl rfl rfl
             ·rw [hb26]; try simp only [hb26, bb] at hL_15
              refine WK.condF rfl ?_
              refine WK.skip ?_
              refine WK.sr mixed ?_
              refine GX.q (.agg (TSession.c c86a)) ?_
              refine GX.step0 (heap' := [(0, .box (TSession.c c86a)), (1, .box (TSession.c b7)), (2, .box (TSession.c c86a)), (3, .box (TDesc.c c86b)), (4, .box (TSession.c c98a)), (5, .box (TDesc.c c98b)), (6, .box (TDesc.c c105a)), (7, .box (TDesc.c c110a))]) (next' := 8) rfl rfl rfl rfl rfl ?_
              refine GX.done ?_
              refine WK.regx mixed ?_
              refine GX.q (.agg (TSession.c c98a)) ?_
              refine GX.step0 (heap' := [(0, .box (TSession.c c86a)), (1, .box (TSession.c c98a)), (2, .box (TSession.c c86a)), (3, .box (TDesc.c c86b)), (4, .box (TSession.c c98a)), (5, .box (TDesc.c c98b)), (6, .box (TDesc.c c105a)), (7, .box (TDesc.c c110a))]) (next' := 8) rfl rfl rfl rfl rfl ?_
              refine GX.done ?_
              refine WK.nil (QF.normal (hK18 _ ?_))
              refine WK.regx mixed ?_
              refine GX.m rfl ?_
              refine GX.pure (v' := .int .i64 ((i9 + 1 : Nat) : Int)) rfl rfl rfl rfl (congrArg (PVal.int .i64) (wrap_up hlt15 hlen_15)) ?_
              refine GX.m rfl ?_
              refine GX.done ?_
              refine WK.nil (QF.normal ?_)
              exact hagain_15 _ (l1.length - (i9 + 1)) ⟨[(1, .ro 7 (l1.map TDesc.c)), (5, .ptr 0 0), (7, .ptr 1 0), (9, .int .i64 ((i9 + 1) : Int))], [(0, .box (TSession.c c86a)), (1, .box (TSession.c c98a))], 2⟩ (by omega) (Conv.keep [0, 1] [] [1, 5, 7, 9] rfl rfl (viewE_cons rfl rfl (viewE_cons rfl rfl (viewE_cons rfl rfl (viewE_cons rfl rfl viewE_nil)))) rfl rfl) ⟨i9 + 1, c86a, c98a, (by omega), rfl, (by omega), (by ((try simp only [List.length_append, List.length_cons, List.length_nil, decide_eq_true_eq, decide_eq_false_iff_not] at *) <;> first | omega | (rw [wrap64_of (by omega) (by omega)]; omega))), (by omega), (by ((try simp only [List.length_append, List.length_cons, List.length_nil, decide_eq_true_eq, decide_eq_false_iff_not] at *) <;> first | omega | (rw [wrap64_of (by omega) (by omega)]; omega))), hL_15, rfl⟩
      ·rw [hb19]; try simp only [hb19, bb] at hL_15
       refine WK.condT rfl ?_
       refine WK.exit ?_
       refine QF.exit (hK18 _ ?_)
       refine WK.regx mixed ?_
       refine GX.m rfl ?_
       refine GX.pure (v' := .int .i64 ((i9 + 1 : Nat) : Int)) rfl rfl rfl rfl (congrArg (PVal.int .i64) (wrap_up hlt15 hlen_15)) ?_
       refine GX.m rfl ?_
       refine GX.done ?_
       refine WK.nil (QF.normal ?_)
       exact hagain_15 _ (l1.length - (i9 + 1)) ⟨[(1, .ro 7 (l1.map TDesc.c)), (5, .ptr 0 0), (7, .ptr 1 0), (9, .int .i64 ((i9 + 1) : Int))], [(0, .box (TSession.c a5)), (1, .box (TSession.c b7))], 2⟩ (by omega) (Conv.keep [0, 1] [] [1, 5, 7, 9] rfl rfl (viewE_cons rfl rfl (viewE_cons rfl rfl (viewE_cons rfl rfl (viewE_cons rfl rfl viewE_nil)))) rfl rfl) ⟨i9 + 1, a5, b7, (by omega), rfl, (by omega), (by omega), (by omega), (by omega), hL_15, rfl⟩
 ·rw [hb1]; try simp only [hb1, bb] at hR
  refine WK.condT rfl ?_
  refine WK.sr mixed ?_
  generalize hc26 : F8_crossroadslaw17_alive = c26 at hR
  try dsimp only at hR
  refine GX.callp (r := .bool c26) rfl rfl rfl (f8_ok  _ hc26) rfl rfl ?_
  refine GX.m rfl ?_
  refine GX.done ?_
  refine WK.ret ?_
  subst hR
  exact RetQ.fr [] (.inr rfl) rfl rfl rfl rfl

end Go.Proofs.Ytbmdpedhobkeeaa.Abs
